import Derived.Test.YthadaajgjloogaaLe
namespace Go.Proofs.Ythadaajgjloogaa.L
open Go.RowKit Go.Proofs.YthadaajgjloogaaW.PrintWords Go.Proofs.YthadaajgjloogaaW.PrintLast Go.Proofs.YthadaajgjloogaaW.PrintMore
attribute [local go_sem] max2_int min2_int max_two min_two max_three min_three max_four min_four

/-- Calls: at most 40 floors. -/
def callsB (c : List Int) : Bool := decide (c.length ≤ 40) && decide (idxP badF c < 0)
def hallB (s c : List Int) : Bool := posB s && callsB c
def ansH (s c : List Int) (cv : Value) : Value := if hallB s c then .tuple #[.agg (hl s.length s cv), .bool true] else .tuple #[.agg (hl 0 [] (.slice none 0 0)), .bool false]
theorem ansH_no {s c : List Int} {cv : Value} (h : hallB s c = false) : ansH s c cv = .tuple #[.agg (hl 0 [] (.slice none 0 0)), .bool false] := by simp [ansH, h]
theorem ansH_yes {s c : List Int} {cv : Value} (h : hallB s c = true) : ansH s c cv = .tuple #[.agg (hl s.length s cv), .bool true] := by simp [ansH, h]

theorem hl_read {w : World} {g : Nat} {k : Int} {s : List Int} {cv : Value} (h : w.heap[g]? = some (.cells (hl k s cv) 62 (0, 0))) :
    (w.cell? ⟨g, 0, none⟩ = some (.int .i64 k) ∧ w.cell? ⟨g, 1, none⟩ = some (.int .i64 (rd s 0)) ∧ w.cell? ⟨g, 2, none⟩ = some (.int .i64 (rd s 1)) ∧ w.cell? ⟨g, 3, none⟩ = some (.int .i64 (rd s 2)) ∧ w.cell? ⟨g, 4, none⟩ = some cv) ∧
    (w.frozen? ⟨g, 0, none⟩ = false ∧ w.frozen? ⟨g, 1, none⟩ = false ∧ w.frozen? ⟨g, 2, none⟩ = false ∧ w.frozen? ⟨g, 3, none⟩ = false ∧ w.frozen? ⟨g, 4, none⟩ = false) :=
  ⟨⟨blk_cell h 0, blk_cell h 1, blk_cell h 2, blk_cell h 3, blk_cell h 4⟩, blk_frozen h _, blk_frozen h _, blk_frozen h _, blk_frozen h _, blk_frozen h _⟩
theorem hl_store5 {w : World} {g : Nat} {k : Int} {s : List Int} {cv : Value} (k' : Int) (t : List Int) (cv' : Value) (h : w.heap[g]? = some (.cells (hl k s cv) 62 (0, 0))) :
    (((((w.setCell ⟨g, 0, none⟩ (.int .i64 k')).setCell ⟨g, 1, none⟩ (.int .i64 (rd t 0))).setCell ⟨g, 2, none⟩ (.int .i64 (rd t 1))).setCell ⟨g, 3, none⟩ (.int .i64 (rd t 2))).setCell ⟨g, 4, none⟩ cv').heap[g]? = some (.cells (hl k' t cv') 62 (0, 0)) := by
  rw [blk_set (blk_set (blk_set (blk_set (blk_set h 0 _) 1 _) 2 _) 3 _) 4 _]; rfl

set_option maxHeartbeats 4000000 in
theorem newHall_calls (A B : Option Addr) (ca cb : Nat) (s c : List Int) (w : World) (hr : Kd.C (Kd.int .i64) w A s.length s) (hq : Kd.C (Kd.int .i64) w B c.length c) :
    Calls Try.prog 47 #[.slice A s.length ca, .slice B c.length cb] w fun e w' => e = .returned (ansH s c (.slice B c.length cb)) ∧ Below w.heap.size w w' := by
  have HR := Aside0.mk hr
  have HQ := Aside0.mk hq
  have hmx := Kd.C_max hq
  clear hr hq
  have B0 : Aside0 (Below w.heap.size w (w.alloc (.cells (hl 0 [] (.slice none 0 0)) 62))) := ⟨(Below.refl _ _).alloc (Nat.le_refl _) _⟩
  cases hp : posB s
  · have HP : Aside0 (ansP s = .tuple #[.agg #[.int .i64 0, .int .i64 0, .int .i64 0], .bool false]) := ⟨ansP_no (l := s) (by rw [hp]; simp)⟩
    have HH : Aside0 (hallB s c = false) := ⟨by simp [hallB, hp]⟩
    clear hp
    go_enter Try.func47, Try.ntmps47
    go_wp2_with (go_at_call 48; refine (spotsOf_calls _ _ _ _ (Kd.C_below HR.out B0.out)).mono ?_; rintro e W ⟨rfl, hb⟩; rw [HP.out]; have HB := Aside0.mk hb; have HG := Aside0.mk ((hb.block w.heap.size (by simp)).trans (aln _ _)); have HZ := blk_lt HG.out; have BW := Aside0.mk (below_then B0.out (by simp) hb); have BQ := Aside0.mk (Kd.C_below HQ.out BW.out); clear hb; obtain ⟨⟨c0, c1, c2, c3, c4⟩, f0, f1, f2, f3, f4⟩ := hl_read HG.out)
    refine bodyPost_ret (results_list (rs := [.cell 4 62, .tmp 5]) rfl (by simp) (.cell w.heap.size 62 (hl 0 [] (.slice none 0 0)) (0, 0) _ rfl (alo (hl_store5 0 [] (.slice none 0 0) HG.out) _) Try.underlying62 rfl size62 (.tmp .nil))) rfl ⟨by rw [ansH_no HH.out]; rfl, ?_⟩
    exact (((((BW.out.setCell (by simp) _).setCell (by simp) _).setCell (by simp) _).setCell (by simp) _).setCell (by simp) _).alloc (by simp only [World.size_setCell]; exact BW.out.size) _
  · have HP : Aside0 (ansP s = .tuple #[.agg #[.int .i64 (rd s 0), .int .i64 (rd s 1), .int .i64 (rd s 2)], .bool true]) := ⟨ansP_yes (l := s) hp⟩
    by_cases h40 : c.length ≤ 40
    · have h40' : decide ((40 : Int) < (c.length : Int)) = false := decide_eq_false (by omega)
      by_cases hi : 0 ≤ idxP badF c
      · have HI : Aside0 (decide (0 ≤ idxP badF c) = true) := ⟨decide_eq_true hi⟩
        have HH : Aside0 (hallB s c = false) := ⟨by simp [hallB, callsB]; intros; omega⟩
        clear hp hi
        go_enter Try.func47, Try.ntmps47
        go_wp2_with (first | (go_at_call 48; refine (spotsOf_calls _ _ _ _ (Kd.C_below HR.out B0.out)).mono ?_; rintro e W ⟨rfl, hb⟩; rw [HP.out]; have HB := Aside0.mk hb; have HG := Aside0.mk ((hb.block w.heap.size (by simp)).trans (aln _ _)); have HZ := blk_lt HG.out; have BW := Aside0.mk (below_then B0.out (by simp) hb); have BQ := Aside0.mk (Kd.C_below HQ.out BW.out); clear hb; obtain ⟨⟨c0, c1, c2, c3, c4⟩, f0, f1, f2, f3, f4⟩ := hl_read HG.out) | (go_at_call 68; refine (containsBad_calls _ _ _ _ (Kd.C_alloc BQ.out _)).mono ?_; rintro e W2 ⟨rfl, rfl⟩; rw [HI.out]))
        refine bodyPost_ret (results_list (rs := [.cell 4 62, .tmp 5]) rfl (by simp) (.cell w.heap.size 62 (hl 0 [] (.slice none 0 0)) (0, 0) _ rfl (alo (hl_store5 0 [] (.slice none 0 0) HG.out) _) Try.underlying62 rfl size62 (.tmp .nil))) rfl ⟨by rw [ansH_no HH.out]; rfl, ?_⟩
        exact (((((BW.out.setCell (by simp) _).setCell (by simp) _).setCell (by simp) _).setCell (by simp) _).setCell (by simp) _).alloc (by simp only [World.size_setCell]; exact BW.out.size) _
      · have HI : Aside0 (decide (0 ≤ idxP badF c) = false) := ⟨decide_eq_false hi⟩
        have HH : Aside0 (hallB s c = true) := ⟨by simp [hallB, callsB, hp, h40]; omega⟩
        clear hp hi
        go_enter Try.func47, Try.ntmps47
        go_wp2_with (first | (go_at_call 48; refine (spotsOf_calls _ _ _ _ (Kd.C_below HR.out B0.out)).mono ?_; rintro e W ⟨rfl, hb⟩; rw [HP.out]; have HB := Aside0.mk hb; have HG := Aside0.mk ((hb.block w.heap.size (by simp)).trans (aln _ _)); have HZ := blk_lt HG.out; have BW := Aside0.mk (below_then B0.out (by simp) hb); have BQ := Aside0.mk (Kd.C_below HQ.out BW.out); clear hb; obtain ⟨⟨c0, c1, c2, c3, c4⟩, f0, f1, f2, f3, f4⟩ := hl_read HG.out) | (go_at_call 68; refine (containsBad_calls _ _ _ _ (Kd.C_alloc BQ.out _)).mono ?_; rintro e W2 ⟨rfl, rfl⟩; rw [HI.out]))
        refine bodyPost_ret (results_list (rs := [.cell 4 62, .tmp 5]) rfl (by simp) (.cell w.heap.size 62 (hl s.length s (.slice B c.length cb)) (0, 0) _ rfl (alo (hl_store5 s.length s (.slice B c.length cb) HG.out) _) Try.underlying62 rfl size62 (.tmp .nil))) rfl ⟨by rw [ansH_yes HH.out]; rfl, ?_⟩
        exact (((((BW.out.setCell (by simp) _).setCell (by simp) _).setCell (by simp) _).setCell (by simp) _).setCell (by simp) _).alloc (by simp only [World.size_setCell]; exact BW.out.size) _
    · have h40' : decide ((40 : Int) < (c.length : Int)) = true := decide_eq_true (by omega)
      have HH : Aside0 (hallB s c = false) := ⟨by simp [hallB, callsB]; intros; omega⟩
      clear hp h40
      go_enter Try.func47, Try.ntmps47
      go_wp2_with (go_at_call 48; refine (spotsOf_calls _ _ _ _ (Kd.C_below HR.out B0.out)).mono ?_; rintro e W ⟨rfl, hb⟩; rw [HP.out]; have HB := Aside0.mk hb; have HG := Aside0.mk ((hb.block w.heap.size (by simp)).trans (aln _ _)); have HZ := blk_lt HG.out; have BW := Aside0.mk (below_then B0.out (by simp) hb); have BQ := Aside0.mk (Kd.C_below HQ.out BW.out); clear hb; obtain ⟨⟨c0, c1, c2, c3, c4⟩, f0, f1, f2, f3, f4⟩ := hl_read HG.out)
      refine bodyPost_ret (results_list (rs := [.cell 4 62, .tmp 5]) rfl (by simp) (.cell w.heap.size 62 (hl 0 [] (.slice none 0 0)) (0, 0) _ rfl (alo (hl_store5 0 [] (.slice none 0 0) HG.out) _) Try.underlying62 rfl size62 (.tmp .nil))) rfl ⟨by rw [ansH_no HH.out]; rfl, ?_⟩
      exact (((((BW.out.setCell (by simp) _).setCell (by simp) _).setCell (by simp) _).setCell (by simp) _).setCell (by simp) _).alloc (by simp only [World.size_setCell]; exact BW.out.size) _
end Go.Proofs.Ythadaajgjloogaa.L
