import Derived.Test.YthadaajgjloogaaLm
import Derived.Laws.EntriesVeiled
namespace Go.Proofs.Ythadaajgjloogaa.L
open Go.RowKit Go.Shelf Go.Proofs.YthadaajgjloogaaW.PrintWords Go.Proofs.YthadaajgjloogaaW.PrintLast Go.Proofs.YthadaajgjloogaaW.PrintMore
attribute [local go_sem] max2_int min2_int max_two min_two max_three min_three max_four min_four

theorem arr0 (k : Nat) : Arr k 0 [] [0, 0, 0] := ⟨rfl, rfl, fun j _ h => by
  match j, h with
  | 0, _ => rfl
  | 1, _ => rfl
  | 2, _ => rfl⟩

/-- The iterator's own function: whatever the loop's body keeps of J, it holds of all positions. -/
theorem iter_calls (l hb k m : Nat) (s0 : List Int) (cv : Value) (J : List (List Int) → World → Prop) (w : World) (hh : w.heap[hb]? = some (.cells (hl k s0 cv) 62 (0, 0))) (hk3 : k ≤ 3)
    (hY : ∀ pre x W s, J pre W → (pre ++ [x]) <+: allP k → It W l hb w.heap.size k s0 cv s → YieldAt Fence.wide m Try.prog l #[.agg (sp x)] W fun e W' => e = .returned (.bool true) ∧ J (pre ++ [x]) W' ∧ Keep4 hb w.heap.size W W')
    (hJs : ∀ pre W (i : Nat) v, J pre W → J pre (W.setCell ⟨w.heap.size + 1, i, none⟩ v)) (hJ0 : ∀ W, Below w.heap.size w W → J [] W) :
    Calls Try.prog 103 #[.func (.yield l) #[] #[], .pointer (some ⟨hb, 0, none⟩)] w fun e W' => (∃ v, e = .returned v) ∧ J (allP k) W' := by
  have HN := Aside0.mk (next_calls l hb w.heap.size k m s0 cv J hY hJs hk3)
  have HH := Aside0.mk hh
  have HJ0 := Aside0.mk hJ0
  clear hY hJs hh hJ0
  go_enter Try.func103, Try.ntmps103
  go_upto_region 4 with (fail)
  refine wpc_world (fun W => Aside0 (It W l hb w.heap.size k s0 cv [0, 0, 0]) ∧ Aside0 (J [] W)) ⟨⟨alo (alo (alo HH.out _) _) _, alo (alo (aln _ _) _) _, alo (aln' _ _ (by simp)) _, aln' _ _ (by simp), blk_lt HH.out⟩, ⟨HJ0.out _ ((((Below.refl _ _).alloc (Nat.le_refl _) _).alloc (by simp) _).alloc (by simp; omega) _)⟩⟩ ?_
  rintro W ⟨HI, HJ⟩
  have c4 := blk_cell HI.out.h4 0
  simp only [List.getElem?_toArray, List.getElem?_cons_zero] at c4
  have HC := Aside0.mk (HN.out k 0 (by omega) [] 0 [0, 0, 0] [] [] W rfl (arr0 k) (by omega) (by simp [allP]) HJ.out HI.out)
  go_wp2_with (go_at_call 104; refine HC.out.mono ?_; rintro e W' ⟨rfl, hj, hs⟩; have HJ' := Aside0.mk hj; clear hj hs)
  refine bodyPost_end (results_none rfl _ _ _) rfl ?_
  exact ⟨⟨_, rfl⟩, HJ'.out⟩

/-- The blocks that a round must leave alone: the hall's, the loop's own, the iterator's. -/
def KeepR (hb D : Nat) (W W' : World) : Prop := ∀ g, (g = hb ∨ (D ≤ g ∧ g < D + 5)) → W'.heap[g]? = W.heap[g]?
theorem KeepR.trans {hb D : Nat} {A B C : World} (h : KeepR hb D A B) (k : KeepR hb D B C) : KeepR hb D A C := fun g hg => (k g hg).trans (h g hg)
/-- Two worlds that differ in one block alone. -/
structure SameBut (l : Nat) (W W' : World) : Prop where
  size : W'.heap.size = W.heap.size
  os : W'.os = W.os
  tape : W'.tape = W.tape
  output : W'.output = W.output
  same : ∀ g, g ≠ l → W'.heap[g]? = W.heap[g]?
theorem sameBut_put (W : World) (l : Nat) (o : Obj) : SameBut l W (W.putObj l o) := ⟨World.putObj_size, rfl, rfl, rfl, fun _ hg => World.putObj_heap_other hg⟩
theorem SameBut.below {l : Nat} {W W' : World} (h : SameBut l W W') {B : Nat} (hB : B ≤ l) : Below B W W' := ⟨h.os, h.tape, h.output, Nat.le_of_eq h.size.symm, fun i hi => h.same i (by omega)⟩

/-- 'for s := range h.all() { .. }' whose body always goes on. -/
theorem range_all {g : Operand} {t : Tmp} {assign body : Code} {Q : Exit → Act → World → Prop} {a : Act} {w : World} (n m hb k : Nat) (s0 : List Int) (cv : Value)
    (hg : a.eval g = .func (.func 103) #[] #[.pointer (some ⟨hb, 0, none⟩)]) (hh : w.heap[hb]? = some (.cells (hl k s0 cv) 62 (0, 0))) (hk3 : k ≤ 3)
    (I : List (List Int) → World → Prop) (hI : ∀ pre W W', I pre W → Below w.heap.size W W' → I pre W') (h0 : I [] w)
    (hbody : ∀ pre x W, I pre W → (pre ++ [x]) <+: allP k → W.heap[hb]? = some (.cells (hl k s0 cv) 62 (0, 0)) → w.heap.size + 5 ≤ W.heap.size →
      assign.wpIn (Fence.wide.inRound (w.heap.size + 1)) m Try.prog (Exit.then (fun a₁ W₁ => KeepR hb w.heap.size W W₁ ∧ ∀ W₂, SameBut (w.heap.size + 1) W₁ W₂ →
        body.wpIn (Fence.wide.inRound (w.heap.size + 1)) m Try.prog (fun e _ W3 => e = .normal ∧ KeepR hb w.heap.size W₂ W3 ∧ I (pre ++ [x]) W3) a₁ W₂) (fun _ _ _ => False)) { tmps := a.tmps.setIfInBounds t (.agg (sp x)), defers := [] } W)
    (hQ : ∀ W, I (allP k) W → W.heap[w.heap.size]? = some (.deferred (some [])) → w.heap.size ≤ W.heap.size → Q .normal { a with defers := { target := .collected w.heap.size, args := #[] } :: a.defers } W) :
    (Code.rangeFunc g #[t] assign body).wpIn Fence.wide n Try.prog Q a w := by
  refine wpIn_rangeFunc ?_
  intro fn _
  obtain ⟨rec, hrec⟩ : ∃ rec : LoopState → Loop, rec = fun st => { state := st, pending := none, fn, tmps := a.tmps, params := #[t], assign, body, defers := w.heap.size } := ⟨_, rfl⟩
  obtain ⟨W1, hW1⟩ : ∃ W1, (w.alloc (.deferred (some []))).alloc (.loop (rec .ready)) = W1 := ⟨_, rfl⟩
  have hz1 : W1.heap.size = w.heap.size + 2 := by rw [← hW1]; simp
  have hL1 : W1.heap[w.heap.size + 1]? = some (.loop (rec .ready)) := by rw [← hW1]; exact aln' _ _ (by simp)
  have hD1 : W1.heap[w.heap.size]? = some (.deferred (some [])) := by rw [← hW1]; exact alo (aln _ _) _
  have hB1 : Below w.heap.size w W1 := by rw [← hW1]; exact ((Below.refl _ w).alloc (Nat.le_refl _) _).alloc (by simp) _
  refine ⟨w.heap.size + 1, [{ target := .collected w.heap.size, args := #[] }], W1, { target := .fn (.func 103) #[.pointer (some ⟨hb, 0, none⟩)], args := #[.func (.yield (w.heap.size + 1)) #[] #[]] }, W1, 103,
    #[.func (.yield (w.heap.size + 1)) #[] #[], .pointer (some ⟨hb, 0, none⟩)], W1, ?_, ?_, fun _ _ => trivial, ?_, fun h => (by cases h), ?_⟩
  · rw [← hW1, hrec]; exact run_enterLoop_outer _ _ _ _ _
  · simp only [resolve, hg]
    simp [go_sem]
  · simp [invoke, go_sem, enter_fn 103 Try.func103 rfl rfl]
  · refine callsIn_wide.2 ((iter_calls (w.heap.size + 1) hb k m s0 cv (fun pre W => I pre W ∧ W.heap[w.heap.size + 1]? = some (.loop (rec .ready)) ∧ W.heap[w.heap.size]? = some (.deferred (some []))) W1 ((hB1.block _ (blk_lt hh)).trans hh) hk3 ?_ ?_ ?_).mono ?_)
    · rintro pre x W s ⟨hi, hl, hd⟩ hpre hIt
      have hsz : w.heap.size + 5 ≤ W.heap.size := by have := blk_lt hIt.h4; omega
      have hy := run_yield (P := Try.prog) (args := #[.agg (sp x)]) hl (by rw [hrec]; rfl)
      rw [hrec] at hy
      have hy : (Instr.yield (w.heap.size + 1) #[.agg (sp x)]).run Try.prog W = .ok (.round (w.heap.size + 1) fn (a.tmps.setIfInBounds t (.agg (sp x))) assign body) W := by simpa using hy
      refine ⟨fn, _, assign, body, hy, roundIn_of_wpIn trivial (wpIn_mono (hbody pre x W hi hpre hIt.h1 hsz) ?_)⟩
      rintro e a₁ W₁ he
      cases e with
      | normal =>
        obtain ⟨hk1, hb1⟩ := he
        have hl1 : W₁.heap[w.heap.size + 1]? = some (.loop (rec .ready)) := (hk1 _ (.inr (by omega))).trans hl
        refine ⟨_, run_beginRound hl1 (by rw [hrec]), wpIn_mono (hb1 _ (sameBut_put _ _ _)) ?_⟩
        rintro e2 a2 W3 ⟨rfl, hk3', hi3⟩
        have hl2 : (W₁.putObj (w.heap.size + 1) (.loop { rec .ready with state := .busy })).heap[w.heap.size + 1]? = some (.loop { rec .ready with state := .busy }) := World.putObj_heap_same (blk_lt hl1)
        have hl3 := (hk3' (w.heap.size + 1) (.inr (by omega))).trans hl2
        have hend := run_endRound (P := Try.prog) none hl3
        refine ⟨_, _, hend, rfl, ⟨?_, ?_, ?_⟩, ?_⟩
        · exact hI _ _ _ hi3 ((sameBut_put _ _ _).below (by omega))
        · rw [World.putObj_heap_same (blk_lt hl3), hrec]; rfl
        · rw [World.putObj_heap_other (by omega), hk3' _ (.inr (by omega)), World.putObj_heap_other (by omega), hk1 _ (.inr (by omega))]; exact hd
        · intro q hq
          have hq' : q ≠ w.heap.size + 1 ∧ (q = hb ∨ (w.heap.size ≤ q ∧ q < w.heap.size + 5)) := by
            have := blk_lt hh
            rcases hq with h | h | h | h <;> (subst h; constructor) <;> omega
          rw [World.putObj_heap_other hq'.1, hk3' _ hq'.2, World.putObj_heap_other hq'.1, hk1 _ hq'.2]
      | exit id => exact he.elim
      | goto t => exact he.elim
      | ret => exact he.elim
      | panic ch => exact he.elim
      | outgrown => exact he.elim
    · rintro pre W i v ⟨hi, hl, hd⟩
      refine ⟨hI _ _ _ hi ((Below.refl _ _).setCell (show w.heap.size ≤ W1.heap.size + 1 by omega) _), (Below.heap_setCell _ _ _ _ ?_).trans hl, (Below.heap_setCell _ _ _ _ ?_).trans hd⟩
      · show w.heap.size + 1 ≠ W1.heap.size + 1; omega
      · show w.heap.size ≠ W1.heap.size + 1; omega
    · intro W hb
      exact ⟨hI _ _ _ (hI _ _ _ h0 hB1) (hb.mono (by omega)), (hb.block _ (by omega)).trans hL1, (hb.block _ (by omega)).trans hD1⟩
    · rintro e W' ⟨⟨v, rfl⟩, hi, hl, hd⟩
      refine ⟨none, W'.putObj (w.heap.size + 1) (.loop { rec .ready with state := .exhausted }), ?_, hQ _ (hI _ _ _ hi ((sameBut_put _ _ _).below (by omega))) ((World.putObj_heap_other (by omega)).trans hd) (by have := blk_lt hd; simp; omega)⟩
      have hp : (rec .ready).pending = none := by rw [hrec]
      have := run_endLoop (P := Try.prog) hl (by rw [hrec]; simp)
      exact this.trans (by simp only [hp])
end Go.Proofs.Ythadaajgjloogaa.L
