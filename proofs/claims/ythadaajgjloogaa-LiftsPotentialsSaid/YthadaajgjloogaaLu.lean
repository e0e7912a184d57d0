import Derived.Test.YthadaajgjloogaaLt
namespace Go.Proofs.Ythadaajgjloogaa.L
open Go.RowKit Go.Shelf Go.Proofs.YthadaajgjloogaaW.PrintWords Go.Proofs.YthadaajgjloogaaW.PrintLast Go.Proofs.YthadaajgjloogaaW.PrintMore
attribute [local go_sem] max2_int min2_int max_two min_two max_three min_three max_four min_four
attribute [local go_sem] Oper.semAt_some

/-! ### the closures of best (90, 91) and Foresee (62) -/
set_option maxHeartbeats 1000000 in
theorem zero_calls (p : List Int) (w : World) : Calls Try.prog 90 #[.agg (sp p)] w fun e w' => e = .returned (.int .i64 0) ∧ Below w.heap.size w w' := by
  rw [spv p]
  go_enter Try.func90, Try.ntmps90
  go_wp2
  go_ret
  exact ⟨rfl, below_alloc (Below.refl _ _) _⟩
set_option maxHeartbeats 1000000 in
theorem from_calls (hb gb k : Nat) (s0 : List Int) (cv : Value) (s p : List Int) (w : World) (hh : w.heap[hb]? = some (.cells (hl k s0 cv) 62 (0, 0))) (hg : w.heap[gb]? = some (.cells (sp s) 60 (0, 0))) (hk3 : k ≤ 3) (hs : Pos k s) (hp : Pos k p) :
    Calls Try.prog 91 #[.agg (sp p), .pointer (some ⟨hb, 0, none⟩), .pointer (some ⟨gb, 0, none⟩)] w fun e w' => e = .returned (.int .i64 (distF s p)) ∧ Below w.heap.size w w' := by
  have HD : Aside0 (sumI (dl s p k) = distF s p) := ⟨by unfold distF; rw [hs.len]⟩
  have HH := Aside0.mk hh
  have HG := Aside0.mk hg
  clear hh hg
  rw [spv p]
  go_enter Try.func91, Try.ntmps91
  go_upto_region 1 with (fail)
  refine wpc_world (fun W => Aside0 (W.heap[hb]? = some (.cells (hl k s0 cv) 62 (0, 0))) ∧ Aside0 (W.heap[gb]? = some (.cells (sp s) 60 (0, 0))) ∧ Aside0 (W.heap[w.heap.size]? = some (.cells (sp p) 60 (0, 0))) ∧ Aside0 (Below w.heap.size w W)) ⟨⟨alo HH.out _⟩, ⟨alo HG.out _⟩, ⟨aln _ _⟩, ⟨below_alloc (Below.refl _ _) _⟩⟩ ?_
  clear HH HG
  rintro W ⟨HH, HG, HX, HB⟩
  obtain ⟨⟨c0, c1, c2, c3, c4⟩, _⟩ := hl_read HH.out
  obtain ⟨r0, r1, r2, _, _, _⟩ := sp_read HG.out
  obtain ⟨t0, t1, t2, _, _, _⟩ := sp_read HX.out
  go_wp2_with (go_at_call 54; refine (distance_calls k s0 cv s p _ hk3 hs.fl hp.fl).mono ?_; rintro e W2 ⟨rfl, hb⟩; rw [HD.out]; have HB2 := Aside0.mk hb; clear hb)
  go_ret
  exact ⟨rfl, below_step HB.out HB2.out⟩
set_option maxHeartbeats 1000000 in
theorem from2_calls (hb gb k : Nat) (s0 : List Int) (cv : Value) (s p : List Int) (w : World) (hh : w.heap[hb]? = some (.cells (hl k s0 cv) 62 (0, 0))) (hg : w.heap[gb]? = some (.cells (sp s) 60 (0, 0))) (hk3 : k ≤ 3) (hs : Pos k s) (hp : Pos k p) :
    Calls Try.prog 62 #[.agg (sp p), .pointer (some ⟨hb, 0, none⟩), .pointer (some ⟨gb, 0, none⟩)] w fun e w' => e = .returned (.int .i64 (distF s p)) ∧ Below w.heap.size w w' := by
  have HD : Aside0 (sumI (dl s p k) = distF s p) := ⟨by unfold distF; rw [hs.len]⟩
  have HH := Aside0.mk hh
  have HG := Aside0.mk hg
  clear hh hg
  rw [spv p]
  go_enter Try.func62, Try.ntmps62
  go_upto_region 1 with (fail)
  refine wpc_world (fun W => Aside0 (W.heap[hb]? = some (.cells (hl k s0 cv) 62 (0, 0))) ∧ Aside0 (W.heap[gb]? = some (.cells (sp s) 60 (0, 0))) ∧ Aside0 (W.heap[w.heap.size]? = some (.cells (sp p) 60 (0, 0))) ∧ Aside0 (Below w.heap.size w W)) ⟨⟨alo HH.out _⟩, ⟨alo HG.out _⟩, ⟨aln _ _⟩, ⟨below_alloc (Below.refl _ _) _⟩⟩ ?_
  clear HH HG
  rintro W ⟨HH, HG, HX, HB⟩
  obtain ⟨⟨c0, c1, c2, c3, c4⟩, _⟩ := hl_read HH.out
  obtain ⟨r0, r1, r2, _, _, _⟩ := sp_read HG.out
  obtain ⟨t0, t1, t2, _, _, _⟩ := sp_read HX.out
  go_wp2_with (go_at_call 54; refine (distance_calls k s0 cv s p _ hk3 hs.fl hp.fl).mono ?_; rintro e W2 ⟨rfl, hb⟩; rw [HD.out]; have HB2 := Aside0.mk hb; clear hb)
  go_ret
  exact ⟨rfl, below_step HB.out HB2.out⟩

/-! ### what chF finds -/
/-- (b, m) is the first least of l's positions with x, or none. -/
theorem chF_spec (f : List Int → Int) (x : Int) : ∀ (l : List (List Int)), (∀ p ∈ l, 0 ≤ f p) → ((chF f x l).2 = -1 ∧ (∀ p ∈ l, x ∉ p)) ∨ ((chF f x l).1 ∈ l ∧ x ∈ (chF f x l).1 ∧ (chF f x l).2 = f (chF f x l).1 ∧ ∀ p ∈ l, x ∈ p → f (chF f x l).1 ≤ f p) := by
  intro l
  rw [← List.reverse_reverse l]
  generalize l.reverse = r
  induction r with
  | nil => intro _; left; simp [chF]
  | cons p r ih =>
    simp only [List.reverse_cons]
    generalize r.reverse = l at *
    intro h0
    have ih := ih (fun q hq => h0 q (by simp [hq]))
    have hp0 := h0 p (by simp)
    rw [chF_snoc]
    unfold chStep
    by_cases hx : x ∈ p
    · rw [if_pos hx]
      rcases ih with ⟨h1, h2⟩ | ⟨h1, h2, h3, h4⟩
      · rw [if_pos (Or.inl (by omega))]
        right
        refine ⟨by simp, hx, rfl, fun q hq hxq => ?_⟩
        rcases List.mem_append.1 hq with h | h
        · exact absurd hxq (h2 q h)
        · simp at h; subst h; exact Int.le_refl _
      · have hb0 := h0 _ (List.mem_append_left [p] h1)
        by_cases hlt : f p < (chF f x l).2
        · rw [if_pos (Or.inr hlt)]
          right
          refine ⟨by simp, hx, rfl, fun q hq hxq => ?_⟩
          rcases List.mem_append.1 hq with h | h
          · have := h4 q h hxq
            show f p ≤ f q
            omega
          · simp at h; subst h; exact Int.le_refl _
        · rw [if_neg (by omega)]
          right
          refine ⟨by simp [h1], h2, h3, fun q hq hxq => ?_⟩
          rcases List.mem_append.1 hq with h | h
          · exact h4 q h hxq
          · simp at h; subst h; omega
    · rw [if_neg hx]
      rcases ih with ⟨h1, h2⟩ | ⟨h1, h2, h3, h4⟩
      · left
        refine ⟨h1, fun q hq => ?_⟩
        rcases List.mem_append.1 hq with h | h
        · exact h2 q h
        · simp at h; subst h; exact hx
      · right
        refine ⟨by simp [h1], h2, h3, fun q hq hxq => ?_⟩
        rcases List.mem_append.1 hq with h | h
        · exact h4 q h hxq
        · simp at h; subst h; exact absurd hxq hx
theorem pos_with {k : Nat} (hk : 1 ≤ k) {x : Int} (hx : 0 ≤ x ∧ x ≤ 30) : ∃ p ∈ allP k, x ∈ p := by
  refine ⟨List.replicate k x, allP_of_sorted ⟨by simp, fun y hy => by rw [(List.mem_replicate.1 hy).2]; exact hx⟩ (by rw [List.pairwise_replicate]; right; omega), List.mem_replicate.2 ⟨by omega, rfl⟩⟩
theorem chF_found {k : Nat} (hk : 1 ≤ k) {x : Int} (hx : 0 ≤ x ∧ x ≤ 30) {f : List Int → Int} (hf : ∀ p ∈ allP k, 0 ≤ f p) : (chF f x (allP k)).1 ∈ allP k ∧ x ∈ (chF f x (allP k)).1 ∧ (chF f x (allP k)).2 = f (chF f x (allP k)).1 ∧ ∀ p ∈ allP k, x ∈ p → f (chF f x (allP k)).1 ≤ f p := by
  rcases chF_spec f x (allP k) hf with ⟨_, h⟩ | h
  · obtain ⟨p, hp, hxp⟩ := pos_with hk hx
    exact absurd hxp (h p hp)
  · exact h

/-! ### the best schedule, from the end -/
/-- What is added to the work: nothing at the end, else the distance from the next positions. -/
def frm (s c : List Int) : Nat → List Int → Int
  | 0 => fun _ => 0
  | j + 1 => distF (chF (fun p => workAt s c (c.length - j) p + frm s c j p) (rd c ((c.length - 1 - j : Nat) : Int)) (allP s.length)).1
def bps (s c : List Int) (j : Nat) : List Int := (chF (fun p => workAt s c (c.length - j) p + frm s c j p) (rd c ((c.length - 1 - j : Nat) : Int)) (allP s.length)).1
theorem frm_succ (s c : List Int) (j : Nat) : frm s c (j + 1) = distF (bps s c j) := rfl
/-- Rows filled from the end, j of them. -/
def outJ (s c : List Int) (j : Nat) : List (List Int) := (List.range c.length).map fun i => if i < c.length - j then [] else bps s c (c.length - 1 - i)
def bestL (s c : List Int) : List (List Int) := outJ s c c.length
theorem outJ_zero (s c : List Int) : outJ s c 0 = List.replicate c.length [] := by
  apply List.ext_getElem
  · simp [outJ]
  · intro i h1 h2
    simp [outJ] at h1 ⊢
    omega
theorem outJ_succ (s c : List Int) (j : Nat) (hj : j < c.length) : (outJ s c j).set (c.length - 1 - j) (bps s c j) = outJ s c (j + 1) := by
  apply List.ext_getElem
  · simp [outJ]
  · intro i h1 h2
    simp [outJ] at h1 h2
    rw [List.getElem_set]
    simp only [outJ, List.getElem_map, List.getElem_range]
    by_cases hi : c.length - 1 - j = i
    · subst hi
      rw [if_pos rfl, if_neg (by omega), show c.length - 1 - (c.length - 1 - j) = j by omega]
    · rw [if_neg hi]
      by_cases h3 : i < c.length - j
      · rw [if_pos h3, if_pos (by omega)]
      · rw [if_neg h3, if_neg (by omega)]
theorem frm_range {s c : List Int} (h1 : 1 ≤ s.length) (h3 : s.length ≤ 3) (hs : Pos s.length s) (hc : ∀ x ∈ c, 0 ≤ x ∧ x ≤ 30) (h40 : c.length ≤ 40) : ∀ j, j ≤ c.length → ∀ p ∈ allP s.length, 0 ≤ frm s c j p ∧ frm s c j p ≤ 90
  | 0, _, p, _ => by simp [frm]
  | j + 1, hj, p, hp => by
    have ih := frm_range h1 h3 hs hc h40 j (by omega)
    have hw := workAt_range h1 h3 hs hc (c.length - j) (by omega)
    have h := chF_found h1 (x := rd c ((c.length - 1 - j : Nat) : Int)) (hc _ (rd_mem (by omega))) (f := fun p => workAt s c (c.length - j) p + frm s c j p) (fun p hp => by have := ih p hp; have := hw p hp; omega)
    rw [frm_succ]
    exact distF_range (allP_pos h.1) (allP_pos hp) h3
theorem bps_spec {s c : List Int} (h1 : 1 ≤ s.length) (h3 : s.length ≤ 3) (hs : Pos s.length s) (hc : ∀ x ∈ c, 0 ≤ x ∧ x ≤ 30) (h40 : c.length ≤ 40) {j : Nat} (hj : j < c.length) :
    bps s c j ∈ allP s.length ∧ rd c ((c.length - 1 - j : Nat) : Int) ∈ bps s c j ∧ ∀ p ∈ allP s.length, rd c ((c.length - 1 - j : Nat) : Int) ∈ p → workAt s c (c.length - j) (bps s c j) + frm s c j (bps s c j) ≤ workAt s c (c.length - j) p + frm s c j p := by
  have ih := frm_range h1 h3 hs hc h40 j (by omega)
  have hw := workAt_range h1 h3 hs hc (c.length - j) (by omega)
  have h := chF_found h1 (x := rd c ((c.length - 1 - j : Nat) : Int)) (hc _ (rd_mem (by omega))) (f := fun p => workAt s c (c.length - j) p + frm s c j p) (fun p hp => by have := ih p hp; have := hw p hp; omega)
  exact ⟨h.1, h.2.1, h.2.2.2⟩
end Go.Proofs.Ythadaajgjloogaa.L
