import Derived.Test.YthadaajgjloogaaLr
namespace Go.Proofs.Ythadaajgjloogaa.L
open Go.RowKit Go.Shelf Go.Proofs.YthadaajgjloogaaW.PrintWords Go.Proofs.YthadaajgjloogaaW.PrintLast Go.Proofs.YthadaajgjloogaaW.PrintMore
attribute [local go_sem] max2_int min2_int max_two min_two max_three min_three max_four min_four
attribute [local go_sem] Oper.semAt_some

structure Aw (w W : World) (k : Nat) (s0 : List Int) (cv : Value) (mb : Nat) (l : List (List Int × Int)) (g : List Int → Int) (js ji : List Nat) : Prop where
  h0 : W.heap[w.heap.size]? = some (.cells (hl k s0 cv) 62 (0, 0))
  ho : W.heap[w.heap.size + 1]? = some (.map (entsOf (outL l g js)) (outL l g js).length)
  hi : W.heap[w.heap.size + 2]? = some (.mapIter (some mb) l.length ji.toArray l.length)
  hm : W.heap[mb]? = some (.map (entsOf l) l.length)
  hb : Below w.heap.size w W
theorem Aw.below {w W W2 : World} {k : Nat} {s0 : List Int} {cv : Value} {mb : Nat} {l : List (List Int × Int)} {g : List Int → Int} {js ji : List Nat} (h : Aw w W k s0 cv mb l g js ji) (hmb : mb < w.heap.size) {B : Nat} (hB : w.heap.size + 3 ≤ B) (hb : Below B W W2) : Aw w W2 k s0 cv mb l g js ji :=
  ⟨(hb.block _ (by omega)).trans h.h0, (hb.block _ (by omega)).trans h.ho, (hb.block _ (by omega)).trans h.hi, (hb.block _ (by omega)).trans h.hm, h.hb.trans (hb.mono (by omega))⟩

set_option maxHeartbeats 8000000 in
theorem after_calls (k : Nat) (s0 : List Int) (cv : Value) (mb : Nat) (f : List Int → Int) (B : Int) (x : Int) (w : World) (hk1 : 1 ≤ k) (hk3 : k ≤ 3) (hx : 0 ≤ x ∧ x ≤ 30) (hM : MapF w mb k f) (hf : ∀ p ∈ allP k, 0 ≤ f p ∧ f p ≤ B) (hB : B ≤ 1000000) :
    Calls Try.prog 50 #[.agg (hl k s0 cv), .map (some mb), .int .i64 x] w fun e w' => e = .returned (.map (some (w.heap.size + 1))) ∧ MapF w' (w.heap.size + 1) k (aftF k f x) ∧ Below w.heap.size w w' := by
  have hmm := @run_makeMap Try.prog
  obtain ⟨l, hM0, hP0, hL0⟩ := hM
  have HM := Aside0.mk hM0
  have HP := Aside0.mk hP0
  have HL := Aside0.mk hL0
  have HF := Aside0.mk hf
  have HX := Aside0.mk hx
  have hmb : mb < w.heap.size := blk_lt hM0
  clear hM0 hP0 hL0 hf hx
  go_enter Try.func50, Try.ntmps50
  go_upto_region 2 with (fail)
  refine wpc_world (fun W => Aside0 (W.heap[w.heap.size]? = some (.cells (hl k s0 cv) 62 (0, 0))) ∧ Aside0 (W.heap[w.heap.size + 1]? = some (.map #[] 0)) ∧ Aside0 (W.heap.size = w.heap.size + 2) ∧ Aside0 (Below w.heap.size w W)) ⟨⟨alo (aln _ _) _⟩, ⟨aln' _ _ (by simp)⟩, ⟨by simp⟩, ⟨below_alloc (below_alloc (Below.refl _ _) _) _⟩⟩ ?_
  rintro W ⟨H0, HO, HZ, HB⟩
  have hrg := run_range_map W 68 60 3 mb (entsOf l) l.length Try.underlying68 ((HB.out.block _ hmb).trans HM.out)
  go_wp2
  clear hrg
  rw [HZ.out]
  have HA : Aside0 (Aw w (W.alloc (.mapIter (some mb) l.length #[] l.length)) k s0 cv mb l (aftF k f x) [] []) := ⟨⟨alo H0.out _, alo HO.out _, aln' _ _ HZ.out.symm, alo ((HB.out.block _ hmb).trans HM.out) _, below_alloc HB.out _⟩⟩
  go_loopw [9, 10] (fun _ _ wr => ∃ js : List Nat, js.Nodup ∧ (∀ i ∈ js, i < l.length) ∧ Aside0 (Aw w wr k s0 cv mb l (aftF k f x) js js)) (fun _ _ wr => wr.rangeLeft mb (w.heap.size + 2))
  case atStart => exact ⟨[], List.nodup_nil, by simp, HA⟩
  case round =>
    clear HA H0 HO HZ HB
    obtain ⟨js, hnd, hjs, HA⟩ := hrel
    have hml : wr.rangeLeft mb (w.heap.size + 2) = (leftOf (entsOf l) js.toArray).size := by simp only [World.rangeLeft, HA.out.hm, HA.out.hi]
    rcases run_next_at (P := Try.prog) wr 0 (w.heap.size + 2) mb l.length l.length js.toArray (entsOf l) l.length HA.out.hi HA.out.hm (born_lt l) (Nat.le_refl _) with ⟨h0, hnx⟩ | ⟨e, he, w1, hal, hnx⟩
    · go_wp2
      go_ret
      exact ⟨rfl, ⟨_, HA.out.ho, out_all hk3 HP.out hnd hjs (left_none h0)⟩, HA.out.hb⟩
    · obtain ⟨j, hj, hky, hbn, hnj⟩ := left_mem he
      have hlt := left_lt hj hnj
      have HPA := Aside0.mk (kyL_allP HP.out hj)
      have HPX := Aside0.mk (allP_pos HPA.out)
      have HFR := Aside0.mk (out_fresh hk3 HP.out (g := aftF k f x) hjs hj hnj)
      have HSN := Aside0.mk (outL_snoc l (aftF k f x) js j)
      have HND : Aside0 ((js ++ [j]).Nodup) := ⟨by rw [List.nodup_append]; exact ⟨hnd, by simp, by intro a ha b hb; simp at hb; subst hb; intro h; exact hnj (h ▸ ha)⟩⟩
      have HJS : Aside0 (∀ i ∈ js ++ [j], i < l.length) := ⟨by intro i hi; rcases List.mem_append.1 hi with h | h; exact hjs i h; simp at h; omega⟩
      have hr1 : w1.heap[w.heap.size + 2]? = some (.mapIter (some mb) l.length js.toArray l.length) := by rcases hal with rfl | rfl <;> exact HA.out.hi
      have hb1 : Below wr.heap.size wr w1 := by rcases hal with rfl | rfl; exact Below.refl _ _; exact below_drew1 (Below.refl _ _)
      obtain ⟨W1, hW1⟩ : ∃ W1, ChangeMaps.setBlock w1 (w.heap.size + 2) (.mapIter (some mb) l.length (js.toArray.push e.born) l.length) = W1 := ⟨_, rfl⟩
      rw [hW1] at hnx
      have hA1 : Aw w W1 k s0 cv mb l (aftF k f x) js (js ++ [j]) := by
        have hs : SameBut (w.heap.size + 2) w1 W1 := by rw [← hW1]; exact sameBut_put _ _ _
        have hh := blk_lt HA.out.hi
        refine ⟨(hs.same _ (by omega)).trans ((hb1.block _ (by omega)).trans HA.out.h0), (hs.same _ (by omega)).trans ((hb1.block _ (by omega)).trans HA.out.ho), ?_, (hs.same _ (by omega)).trans ((hb1.block _ (by omega)).trans HA.out.hm), (HA.out.hb.trans (hb1.mono (by omega))).trans (hs.below (by omega))⟩
        rw [← hW1, hbn, List.push_toArray]
        exact (MapKept.heap_set hr1).1
      have hen := run_entry_at (P := Try.prog) W1 (w.heap.size + 2) mb l.length js.toArray (entsOf l) l.length e (by rw [hA1.hi, hbn, List.push_toArray]) hA1.hm (mem_left he).1 (born_nodup l)
      rw [hky] at hnx hen
      have HA1 := Aside0.mk hA1
      have HNL : Aside0 ((leftOf (entsOf l) (js ++ [j]).toArray).size < wr.rangeLeft mb (w.heap.size + 2)) := ⟨by rw [hml]; exact hlt⟩
      generalize kyL l j = p at *
      rw [spv p] at hnx hen
      have HJS2 := Aside0.mk hjs
      clear hr1 hb1 hA1 he hal hW1 hlt hnj hml hky hbn hnd hjs HA
      go_upto_region 5 with (fail)
      have hz1 : w.heap.size + 3 ≤ W1.heap.size := by have := blk_lt HA1.out.hi; omega
      refine wpc_world (fun V => Aside0 (Aw w V k s0 cv mb l (aftF k f x) js (js ++ [j])) ∧ Aside0 (V.heap[W1.heap.size]? = some (.cells (sp p) 60 (0, 0)))) ⟨⟨HA1.out.below hmb (B := W1.heap.size) hz1 ((Below.refl _ _).alloc (Nat.le_refl _) _)⟩, ⟨aln _ _⟩⟩ ?_
      clear hnx hen
      clear HA1
      rintro V ⟨HA, HS⟩
      obtain ⟨⟨c0, c1, c2, c3, c4⟩, _⟩ := hl_read HA.out.h0
      obtain ⟨r0, r1, r2, _, _, _⟩ := sp_read HS.out
      have hm0 := HA.out.hm
      have hx0 := HX.out.1
      have hx1 := HX.out.2
      have hp0 : 0 ≤ rd p 0 ∧ rd p 0 ≤ 30 := HPX.out.all _ (rd_mem (i := 0) (by rw [HPX.out.len]; omega))
      have HC0 : Aside0 (∀ V, Calls Try.prog 83 #[.agg (hl k s0 cv), .agg (sp p), .int .i64 0, .int .i64 x] V fun e w' => e = .returned (.agg (sp (srt (p.set 0 x)))) ∧ Below V.heap.size V w') := ⟨fun V => moved_calls k s0 cv p 0 x V hk3 HPX.out.len (by omega)⟩
      have HF0 := Aside0.mk (HF.out _ (srt_allP (pos_set HPX.out 0 HX.out)))
      have HLK : Aside0 (∀ U, U.heap[mb]? = some (.map (entsOf l) l.length) → (Instr.lookup 68 (.map (some mb)) (.agg #[.int .i64 (rd (srt (p.set 0 x)) 0), .int .i64 (rd (srt (p.set 0 x)) 1), .int .i64 (rd (srt (p.set 0 x)) 2)]) false).run Try.prog U = .ok (.int .i64 (f (srt (p.set 0 x)))) U) := ⟨fun U hU => by rw [← HL.out _ (srt_allP (pos_set HPX.out 0 HX.out))]; exact lookup_run l _ mb (srt (p.set 0 x)) U hU⟩
      have HV0 : Aside0 (aftV f x p 0 = f (srt (p.set 0 x)) + ab (rd p 0) x) := ⟨rfl⟩
      have HV1 := Aside0.mk (aftV_range HF.out HX.out HPX.out (i := 0) (by omega))
      have hwr : IntKind.i64.wrap (f (srt (p.set 0 x)) + ab (rd p 0) x) = f (srt (p.set 0 x)) + ab (rd p 0) x := IntWalk.i64_in _ (by have := HV1.out; rw [HV0.out] at this; omega)
      go_region_held3 (fun U => U.cell? ⟨w.heap.size, 0, none⟩ = some (.int .i64 k) ∧ U.cell? ⟨w.heap.size, 1, none⟩ = some (.int .i64 (rd s0 0)) ∧ U.cell? ⟨w.heap.size, 2, none⟩ = some (.int .i64 (rd s0 1)) ∧ U.cell? ⟨w.heap.size, 3, none⟩ = some (.int .i64 (rd s0 2)) ∧ U.cell? ⟨w.heap.size, 4, none⟩ = some cv ∧
        U.cell? ⟨W1.heap.size, 0, none⟩ = some (.int .i64 (rd p 0)) ∧ U.cell? ⟨W1.heap.size, 1, none⟩ = some (.int .i64 (rd p 1)) ∧ U.cell? ⟨W1.heap.size, 2, none⟩ = some (.int .i64 (rd p 2))) (go_keep)
        (first
          | (go_at_call 83; refine (HC0.out _).mono ?_; rintro e V3 ⟨rfl, hb0⟩; rw [spv (srt _)]; have HB3 : Aside0 (Below V.heap.size V V3) := ⟨below_step (below_drew1 (Below.refl _ _)) hb0⟩; clear hb0; have HA3 : Aside0 (Aw w V3 k s0 cv mb l (aftF k f x) js (js ++ [j])) := ⟨HA.out.below hmb (B := V.heap.size) (by have := blk_lt HS.out; omega) HB3.out⟩; have HS3 : Aside0 (V3.heap[W1.heap.size]? = some (.cells (sp p) 60 (0, 0))) := ⟨(HB3.out.block _ (blk_lt HS.out)).trans HS.out⟩; obtain ⟨⟨c0, c1, c2, c3, c4⟩, _⟩ := hl_read HA3.out.h0; obtain ⟨r0, r1, r2, _, _, _⟩ := sp_read HS3.out; have hlk := HLK.out V3 HA3.out.hm)
          | (go_at_call 84; refine (away_calls _ _ _ (by omega) (by omega)).mono ?_; rintro e w' ⟨rfl, rfl⟩))
      all_goals (
        rw [← HV0.out]
        have hin : Aside0 (∀ q, q < V.heap.size → q ≠ 0 ∨ True) := ⟨fun _ _ => Or.inr trivial⟩
        clear hin hm0 hwr hlk c0 c1 c2 c3 c4 r0 r1 r2 hp0 HC0 HF0 HLK HV0 HV1 HA HS HB3
        go_wp2
        go_loopw [9, 10] (fun v9 v10 U => ∃ i : Nat, 1 ≤ i ∧ i ≤ k ∧ v10 = .int .i64 i ∧ v9 = .int .i64 (aftB f x p (i - 1)) ∧ Aside0 (Aw w U k s0 cv mb l (aftF k f x) js (js ++ [j])) ∧ Aside0 (U.heap[W1.heap.size]? = some (.cells (sp p) 60 (0, 0)))) (fun _ v10 _ => k - (intOf v10).toNat)
        case atStart => exact ⟨1, Nat.le_refl _, hk1, rfl, rfl, HA3, HS3⟩
        case round =>
          clear HA3 HS3
          obtain ⟨i, hi1, hik, rfl, rfl, HA, HS⟩ := hrel
          by_cases hlt : i < k
          · obtain ⟨⟨c0, c1, c2, c3, c4⟩, _⟩ := hl_read HA.out.h0
            obtain ⟨r0, r1, r2, _, _, _⟩ := sp_read HS.out
            have ri := sp_cell HS.out i (by omega)
            have hi3 : (i : Int) < 3 := by omega
            have hiI : (1 : Int) ≤ i := by omega
            have hpi := HPX.out.all (rd p i) (rd_mem (by rw [HPX.out.len]; exact hlt))
            have HCI : Aside0 (∀ V, Calls Try.prog 83 #[.agg (hl k s0 cv), .agg (sp p), .int .i64 i, .int .i64 x] V fun e w' => e = .returned (.agg (sp (srt (p.set i x)))) ∧ Below V.heap.size V w') := ⟨fun V => moved_calls k s0 cv p i x V hk3 HPX.out.len hlt⟩
            have HLK : Aside0 (∀ U, U.heap[mb]? = some (.map (entsOf l) l.length) → (Instr.lookup 68 (.map (some mb)) (.agg #[.int .i64 (rd (srt (p.set i x)) 0), .int .i64 (rd (srt (p.set i x)) 1), .int .i64 (rd (srt (p.set i x)) 2)]) false).run Try.prog U = .ok (.int .i64 (f (srt (p.set i x)))) U) := ⟨fun U hU => by rw [← HL.out _ (srt_allP (pos_set HPX.out i HX.out))]; exact lookup_run l _ mb (srt (p.set i x)) U hU⟩
            have HV0 : Aside0 (aftV f x p i = f (srt (p.set i x)) + ab (rd p i) x) := ⟨rfl⟩
            have HV1 := Aside0.mk (aftV_range HF.out HX.out HPX.out hlt)
            have hwr : IntKind.i64.wrap (f (srt (p.set i x)) + ab (rd p i) x) = f (srt (p.set i x)) + ab (rd p i) x := IntWalk.i64_in _ (by have := HV1.out; rw [HV0.out] at this; omega)
            have HBS : Aside0 (aftB f x p i = if f (srt (p.set i x)) + ab (rd p i) x < aftB f x p (i - 1) then f (srt (p.set i x)) + ab (rd p i) x else aftB f x p (i - 1)) := ⟨by rw [← HV0.out]; obtain ⟨m, rfl⟩ : ∃ m, i = m + 1 := ⟨i - 1, by omega⟩; rfl⟩
            have HBP := Aside0.mk (aftB_range HF.out HX.out HPX.out (i - 1) (by omega))
            go_upto_region 9 with (fail)
            go_region_held3 (fun U => U.cell? ⟨w.heap.size, 0, none⟩ = some (.int .i64 k) ∧ U.cell? ⟨w.heap.size, 1, none⟩ = some (.int .i64 (rd s0 0)) ∧ U.cell? ⟨w.heap.size, 2, none⟩ = some (.int .i64 (rd s0 1)) ∧ U.cell? ⟨w.heap.size, 3, none⟩ = some (.int .i64 (rd s0 2)) ∧ U.cell? ⟨w.heap.size, 4, none⟩ = some cv ∧
              U.cell? ⟨W1.heap.size, 0, none⟩ = some (.int .i64 (rd p 0)) ∧ U.cell? ⟨W1.heap.size, 1, none⟩ = some (.int .i64 (rd p 1)) ∧ U.cell? ⟨W1.heap.size, 2, none⟩ = some (.int .i64 (rd p 2)) ∧ U.cell? ⟨W1.heap.size, i, none⟩ = some (.int .i64 (rd p i))) (go_keep)
              (first
                | (go_at_call 83; refine (HCI.out _).mono ?_; rintro e V3 ⟨rfl, hb0⟩; rw [spv (srt _)]; have HB3 : Aside0 (Below wr.heap.size wr V3) := ⟨below_step (below_drew1 (Below.refl _ _)) hb0⟩; clear hb0; have HA3 : Aside0 (Aw w V3 k s0 cv mb l (aftF k f x) js (js ++ [j])) := ⟨HA.out.below hmb (B := wr.heap.size) (by have := blk_lt HS.out; omega) HB3.out⟩; have HS3 : Aside0 (V3.heap[W1.heap.size]? = some (.cells (sp p) 60 (0, 0))) := ⟨(HB3.out.block _ (blk_lt HS.out)).trans HS.out⟩; obtain ⟨⟨c0, c1, c2, c3, c4⟩, _⟩ := hl_read HA3.out.h0; obtain ⟨r0, r1, r2, _, _, _⟩ := sp_read HS3.out; have ri := sp_cell HS3.out i (by omega); have hlk := HLK.out V3 HA3.out.hm)
                | (go_at_call 84; refine (away_calls _ _ _ (by omega) (by omega)).mono ?_; rintro e w' ⟨rfl, rfl⟩))
            all_goals (
              rw [← HBS.out]
              clear c0 c1 c2 c3 c4 r0 r1 r2 ri hlk hwr
              go_wp2
              go_roundw
              case rel => exact ⟨i + 1, by omega, by omega, by go_num, by rw [show i + 1 - 1 = i by omega], HA3, HS3⟩
              case measure => simp [intOf]; omega)
          · obtain rfl : i = k := by omega
            have HE : Aside0 (aftB f x p (i - 1) = aftF i f x p) := ⟨rfl⟩
            rw [HE.out]
            obtain ⟨⟨c0, c1, c2, c3, c4⟩, _⟩ := hl_read HA.out.h0
            obtain ⟨r0, r1, r2, _, _, _⟩ := sp_read HS.out
            have hup : (Instr.mapUpdate 68 (.map (some (w.heap.size + 1))) (.agg #[.int .i64 (rd p 0), .int .i64 (rd p 1), .int .i64 (rd p 2)]) (.int .i64 (aftF i f x p))).run Try.prog wr = .ok () (wr.putObj (w.heap.size + 1) (.map (entsOf (outL l (aftF i f x) (js ++ [j]))) (outL l (aftF i f x) (js ++ [j])).length)) := by
              rw [HSN.out]
              exact update_run (outL l (aftF i f x) js) (w.heap.size + 1) p (aftF i f x p) wr HA.out.ho HFR.out
            go_wp2
            go_roundw
            case rel =>
              have hz := blk_lt HA.out.hi
              exact ⟨js ++ [j], HND.out, HJS.out, ⟨⟨(World.putObj_heap_other (by omega)).trans HA.out.h0, World.putObj_heap_same (by omega), (World.putObj_heap_other (by omega)).trans HA.out.hi, (World.putObj_heap_other (by omega)).trans HA.out.hm, HA.out.hb.trans ((sameBut_put _ _ _).below (by omega))⟩⟩⟩
            case measure =>
              refine Nat.lt_of_le_of_lt (Nat.le_of_eq ?_) HNL.out
              have hz := blk_lt HA.out.hi
              have e1 := (World.putObj_heap_other (w := wr) (o := .map (entsOf (outL l (aftF i f x) (js ++ [j]))) (outL l (aftF i f x) (js ++ [j])).length) (show mb ≠ w.heap.size + 1 by omega)).trans HA.out.hm
              have e2 := (World.putObj_heap_other (w := wr) (o := .map (entsOf (outL l (aftF i f x) (js ++ [j]))) (outL l (aftF i f x) (js ++ [j])).length) (show w.heap.size + 2 ≠ w.heap.size + 1 by omega)).trans HA.out.hi
              simp only [World.rangeLeft, e1, e2])
end Go.Proofs.Ythadaajgjloogaa.L
