import Derived.Test.YthadaajgjloogaaLc
namespace Go.Proofs.Ythadaajgjloogaa.L
open Go.RowKit Go.Proofs.YthadaajgjloogaaW.PrintWords Go.Proofs.YthadaajgjloogaaW.PrintLast Go.Proofs.YthadaajgjloogaaW.PrintMore
attribute [local go_sem] max2_int min2_int max_two min_two max_three min_three max_four min_four

/-- Element i of a list fits: a floor, not below the one before it. -/
def okAt (l : List Int) (i : Nat) : Prop := 0 ≤ rd l i ∧ rd l i ≤ 30 ∧ (0 < i → rd l ((i : Int) - 1) ≤ rd l i)
instance (l : List Int) (i : Nat) : Decidable (okAt l i) := by unfold okAt; infer_instance
/-- Positions of from 1 to 3 lifts. -/
def posB (l : List Int) : Bool := decide (1 ≤ l.length) && decide (l.length ≤ 3) && decide (∀ i, i < l.length → okAt l i)
theorem posB_iff (l : List Int) : posB l = true ↔ (1 ≤ l.length ∧ l.length ≤ 3) ∧ ∀ i, i < l.length → okAt l i := by
  simp [posB]
def ansP (l : List Int) : Value := if posB l then .tuple #[.agg (sp l), .bool true] else .tuple #[.agg (sp []), .bool false]
theorem ansP_no {l : List Int} (h : ¬ posB l = true) : ansP l = .tuple #[.agg (sp []), .bool false] := by simp [ansP, h]
theorem ansP_yes {l : List Int} (h : posB l = true) : ansP l = .tuple #[.agg (sp l), .bool true] := by simp [ansP, h]
theorem sp_take (l : List Int) (j : Nat) (h : j < l.length) (h3 : l.length ≤ 3) : (sp (l.take j)).setIfInBounds j (.int .i64 (rd l j)) = sp (l.take (j + 1)) := by
  match l, j, h, h3 with
  | [a], 0, _, _ => rfl
  | [a, b], 0, _, _ => rfl
  | [a, b], 1, _, _ => rfl
  | [a, b, c], 0, _, _ => rfl
  | [a, b, c], 1, _, _ => rfl
  | [a, b, c], 2, _, _ => rfl

set_option maxHeartbeats 2000000 in
theorem spotsOf_calls (A : Option Addr) (c : Nat) (l : List Int) (w : World) (hr : Kd.C (Kd.int .i64) w A l.length l) :
    Calls Try.prog 48 #[.slice A l.length c] w fun e w' => e = .returned (ansP l) ∧ Below w.heap.size w w' := by
  have HR := Aside0.mk hr
  have hmx := Kd.C_max hr
  clear hr
  by_cases hlen : 1 ≤ l.length ∧ l.length ≤ 3
  · obtain ⟨h1, h3⟩ := hlen
    have hw : Aside0 (withinB l.length 1 3 = true) := ⟨by simp [withinB]; omega⟩
    go_enter Try.func48, Try.ntmps48
    go_wp2_with (go_at_call 81; refine (within_calls _ _ _ _).mono ?_; rintro e w' ⟨rfl, rfl⟩; rw [hw.out])
    go_loopw [14] (fun v14 wr => ∃ j : Nat, j ≤ l.length ∧ v14 = .int .i64 j ∧ Aside0 (∀ i, i < j → okAt l i) ∧
      Aside0 (wr.heap[w.heap.size]? = some (.cells (sp []) 60 (0, 0))) ∧ Aside0 (wr.heap[w.heap.size + 1]? = some (.cells (sp (l.take j)) 60 (0, 0))) ∧ Aside0 (Below w.heap.size w wr)) (fun v14 _ => l.length - (intOf v14).toNat)
    case atStart => exact ⟨0, Nat.zero_le _, rfl, ⟨fun i hi => by omega⟩, ⟨alo (aln _ _) _⟩, ⟨aln' _ _ (by simp)⟩, ⟨((Below.refl _ _).alloc (Nat.le_refl _) _).alloc (by simp) _⟩⟩
    case round =>
      obtain ⟨j, hj, rfl, HO, HX, HY, HW⟩ := hrel
      by_cases hlt : j < l.length
      · obtain ⟨ad, rfl, hx⟩ := Kd.at_int (Kd.C_below HR.out HW.out) (j : Int) (by omega) (by omega)
        rw [Int.toNat_natCast] at hx
        obtain ⟨t0, t1, t2, f0, f1, f2⟩ := sp_read HX.out
        by_cases hf : 0 ≤ rd l j ∧ rd l j ≤ 30
        · have hw1 : Aside0 (withinB (rd l j) 0 30 = true) := ⟨by simp [withinB, hf]⟩
          have hcj := sp_cell HY.out j (by omega)
          have hfj := blk_frozen HY.out j
          have hj3 : (j : Int) < 3 := by omega
          have HY1 : Aside0 ((wr.setCell ⟨w.heap.size + 1, j, none⟩ (.int .i64 (rd l j))).heap[w.heap.size + 1]? = some (.cells (sp (l.take (j + 1))) 60 (0, 0))) := ⟨by rw [blk_set HY.out, sp_take l j hlt h3]⟩
          have HX1 : Aside0 ((wr.setCell ⟨w.heap.size + 1, j, none⟩ (.int .i64 (rd l j))).heap[w.heap.size]? = some (.cells (sp []) 60 (0, 0))) := ⟨blk_far HX.out (by simp) _⟩
          have HF := Aside0.mk hf
          clear hf t0 t1 t2 f0 f1 f2
          by_cases hz : 0 < j
          · have hz' : decide ((0 : Int) < (j : Int)) = true := decide_eq_true (by omega)
            obtain ⟨ad', he, hx2⟩ := Kd.at_int (Kd.C_below HR.out HW.out) ((j : Int) - 1) (by omega) (by omega)
            cases he
            rw [show ((j : Int) - 1).toNat = j - 1 from by omega] at hx2
            by_cases hle : rd l ((j : Int) - 1) ≤ rd l j
            · have hle' : decide (rd l j < rd l ((j : Int) - 1)) = false := decide_eq_false (by omega)
              have HO1 : Aside0 (∀ i, i < j + 1 → okAt l i) := ⟨fun i hi => by
                rcases Nat.lt_or_ge i j with h | h
                · exact HO.out i h
                · obtain rfl : i = j := by omega
                  exact ⟨HF.out.1, HF.out.2, fun _ => hle⟩⟩
              clear hle
              go_wp2_with (go_at_call 81; refine (within_calls _ _ _ _).mono ?_; rintro e w' ⟨rfl, rfl⟩; rw [hw1.out])
              go_roundw
              case rel => exact ⟨j + 1, by omega, by go_num, HO1, HX1, HY1, ⟨HW.out.setCell (by simp) _⟩⟩
              case measure => simp [intOf]; omega
            · have hle' : decide (rd l j < rd l ((j : Int) - 1)) = true := decide_eq_true (by omega)
              have HP : Aside0 (¬ posB l = true) := ⟨fun h => hle ((((posB_iff l).1 h).2 j hlt).2.2 hz)⟩
              clear hle HX1 HY1 hcj hfj
              obtain ⟨t0, t1, t2, f0, f1, f2⟩ := sp_read HX.out
              go_wp2_with (go_at_call 81; refine (within_calls _ _ _ _).mono ?_; rintro e w' ⟨rfl, rfl⟩; rw [hw1.out])
              refine bodyPost_ret (results_list (rs := [.cell 2 60, .tmp 3]) rfl (by simp) (.cell w.heap.size 60 (sp []) (0, 0) _ rfl (sp_store3 [] HX.out) Try.underlying60 rfl size60 (.tmp .nil))) rfl ⟨by rw [ansP_no HP.out]; rfl, ?_⟩
              exact ((HW.out.setCell (by simp) _).setCell (by simp) _).setCell (by simp) _
          · have hz' : decide ((0 : Int) < (j : Int)) = false := decide_eq_false (by omega)
            have HO1 : Aside0 (∀ i, i < j + 1 → okAt l i) := ⟨fun i hi => by
              rcases Nat.lt_or_ge i j with h | h
              · exact HO.out i h
              · obtain rfl : i = j := by omega
                exact ⟨HF.out.1, HF.out.2, fun h => absurd h hz⟩⟩
            have hz2 : decide (0 < j) = false := decide_eq_false hz
            clear hz
            go_wp2_with (go_at_call 81; refine (within_calls _ _ _ _).mono ?_; rintro e w' ⟨rfl, rfl⟩; rw [hw1.out])
            go_roundw
            case rel => exact ⟨j + 1, by omega, by go_num, HO1, HX1, HY1, ⟨HW.out.setCell (by simp) _⟩⟩
            case measure => simp [intOf]; omega
        · have hw1 : Aside0 (withinB (rd l j) 0 30 = false) := ⟨by simp [withinB]; omega⟩
          have HP : Aside0 (¬ posB l = true) := ⟨fun h => hf ⟨(((posB_iff l).1 h).2 j hlt).1, (((posB_iff l).1 h).2 j hlt).2.1⟩⟩
          clear hf
          go_wp2_with (go_at_call 81; refine (within_calls _ _ _ _).mono ?_; rintro e w' ⟨rfl, rfl⟩; rw [hw1.out])
          refine bodyPost_ret (results_list (rs := [.cell 2 60, .tmp 3]) rfl (by simp) (.cell w.heap.size 60 (sp []) (0, 0) _ rfl (sp_store3 [] HX.out) Try.underlying60 rfl size60 (.tmp .nil))) rfl ⟨by rw [ansP_no HP.out]; rfl, ?_⟩
          exact ((HW.out.setCell (by simp) _).setCell (by simp) _).setCell (by simp) _
      · obtain rfl : j = l.length := by omega
        have HP : Aside0 (posB l = true) := ⟨(posB_iff l).2 ⟨⟨h1, h3⟩, HO.out⟩⟩
        have HT : Aside0 (l.take l.length = l) := ⟨List.take_length⟩
        rw [HT.out] at HY
        obtain ⟨r0, r1, r2, _, _, _⟩ := sp_read HY.out
        obtain ⟨t0, t1, t2, f0, f1, f2⟩ := sp_read HX.out
        go_wp2
        refine bodyPost_ret (results_list (rs := [.cell 2 60, .tmp 3]) rfl (by simp) (.cell w.heap.size 60 (sp l) (0, 0) _ rfl (sp_store3 _ HX.out) Try.underlying60 rfl size60 (.tmp .nil))) rfl ⟨by rw [ansP_yes HP.out]; rfl, ?_⟩
        exact ((HW.out.setCell (by simp) _).setCell (by simp) _).setCell (by simp) _
  · have hw : Aside0 (withinB l.length 1 3 = false) := ⟨by simp [withinB]; omega⟩
    have HP : Aside0 (¬ posB l = true) := ⟨fun h => hlen ((posB_iff l).1 h).1⟩
    clear hlen
    go_enter Try.func48, Try.ntmps48
    go_wp2_with (go_at_call 81; refine (within_calls _ _ _ _).mono ?_; rintro e w' ⟨rfl, rfl⟩; rw [hw.out])
    refine bodyPost_ret (results_list (rs := [.cell 2 60, .tmp 3]) rfl (by simp) (.cell w.heap.size 60 (sp []) (0, 0) _ rfl (aln _ _) Try.underlying60 rfl size60 (.tmp .nil))) rfl ⟨by rw [ansP_no HP.out]; rfl, (Below.refl _ _).alloc (Nat.le_refl _) _⟩
end Go.Proofs.Ythadaajgjloogaa.L
