import Derived.Test.YthadaajgjloogaaQb
import Derived.Maps.Range
import Derived.Test.YthadaajgjloogaaPLiftsWorksx7
namespace Go.Proofs.Ythadaajgjloogaa.L
open Go.RowKit Go.Shelf Go.Proofs.YthadaajgjloogaaW.PrintWords Go.Proofs.YthadaajgjloogaaW.PrintLast Go.Proofs.YthadaajgjloogaaW.PrintMore
attribute [local go_sem] max2_int min2_int max_two min_two max_three min_three max_four min_four
attribute [local go_sem] Oper.semAt_some

/-! ### cheapest (61) -/
/-- One position more: the best so far, and its number (-1: none). -/
def chStep (f : List Int → Int) (x : Int) (b : List Int × Int) (p : List Int) : List Int × Int :=
  if x ∈ p then (if b.2 < 0 ∨ f p < b.2 then (p, f p) else b) else b
def chF (f : List Int → Int) (x : Int) (l : List (List Int)) : List Int × Int := l.foldl (chStep f x) ([], -1)
theorem chF_snoc (f : List Int → Int) (x : Int) (l : List (List Int)) (p : List Int) : chF f x (l ++ [p]) = chStep f x (chF f x l) p := by simp [chF]

structure Ch (w W : World) (k : Nat) (s0 : List Int) (cv : Value) (mb : Nat) (x : Int) (fv : Value) (b : List Int × Int) : Prop where
  h0 : W.heap[w.heap.size]? = some (.cells (hl k s0 cv) 62 (0, 0))
  h1 : W.heap[w.heap.size + 1]? = some (.cells #[.map (some mb)] 68 (0, 0))
  h2 : W.heap[w.heap.size + 2]? = some (.cells #[.int .i64 x] 3 (0, 0))
  h3 : W.heap[w.heap.size + 3]? = some (.cells #[fv] 82 (0, 0))
  h4 : W.heap[w.heap.size + 4]? = some (.cells (sp []) 60 (0, 0))
  h5 : W.heap[w.heap.size + 5]? = some (.cells (sp b.1) 60 (0, 0))
  h6 : W.heap[w.heap.size + 6]? = some (.cells #[.int .i64 b.2] 3 (0, 0))
  hb : Below w.heap.size w W
theorem Ch.below {w W W2 : World} {k : Nat} {s0 : List Int} {cv : Value} {mb : Nat} {x : Int} {fv : Value} {b : List Int × Int} (h : Ch w W k s0 cv mb x fv b) {B : Nat} (hB : w.heap.size + 7 ≤ B) (hb : Below B W W2) : Ch w W2 k s0 cv mb x fv b :=
  ⟨(hb.block _ (by omega)).trans h.h0, (hb.block _ (by omega)).trans h.h1, (hb.block _ (by omega)).trans h.h2, (hb.block _ (by omega)).trans h.h3, (hb.block _ (by omega)).trans h.h4, (hb.block _ (by omega)).trans h.h5, (hb.block _ (by omega)).trans h.h6, h.hb.trans (hb.mono (by omega))⟩

theorem Ch.set {w W : World} {k : Nat} {s0 : List Int} {cv : Value} {mb : Nat} {x : Int} {fv : Value} {b : List Int × Int} (h : Ch w W k s0 cv mb x fv b) (p : List Int) (n : Int) :
    Ch w ((((W.setCell ⟨w.heap.size + 5, 0, none⟩ (.int .i64 (rd p 0))).setCell ⟨w.heap.size + 5, 1, none⟩ (.int .i64 (rd p 1))).setCell ⟨w.heap.size + 5, 2, none⟩ (.int .i64 (rd p 2))).setCell ⟨w.heap.size + 6, 0, none⟩ (.int .i64 n)) k s0 cv mb x fv (p, n) :=
  ⟨blk_far (blk_far (blk_far (blk_far h.h0 (by simp) _) (by simp) _) (by simp) _) (by simp) _, blk_far (blk_far (blk_far (blk_far h.h1 (by simp) _) (by simp) _) (by simp) _) (by simp) _, blk_far (blk_far (blk_far (blk_far h.h2 (by simp) _) (by simp) _) (by simp) _) (by simp) _, blk_far (blk_far (blk_far (blk_far h.h3 (by simp) _) (by simp) _) (by simp) _) (by simp) _, blk_far (blk_far (blk_far (blk_far h.h4 (by simp) _) (by simp) _) (by simp) _) (by simp) _,
   blk_far (sp_store3 p h.h5) (by simp) _, (blk_set (blk_far (blk_far (blk_far h.h6 (by simp) _) (by simp) _) (by simp) _) 0 _).trans rfl,
   (((h.hb.setCell (show w.heap.size ≤ w.heap.size + 5 by omega) _).setCell (show w.heap.size ≤ w.heap.size + 5 by omega) _).setCell (show w.heap.size ≤ w.heap.size + 5 by omega) _).setCell (show w.heap.size ≤ w.heap.size + 6 by omega) _⟩
theorem Ch.keep {w W : World} {p : List Int} {n : Int} (q : Nat) (h : q ≠ w.heap.size + 5 ∧ q ≠ w.heap.size + 6) :
    ((((W.setCell ⟨w.heap.size + 5, 0, none⟩ (.int .i64 (rd p 0))).setCell ⟨w.heap.size + 5, 1, none⟩ (.int .i64 (rd p 1))).setCell ⟨w.heap.size + 5, 2, none⟩ (.int .i64 (rd p 2))).setCell ⟨w.heap.size + 6, 0, none⟩ (.int .i64 n)).heap[q]? = W.heap[q]? :=
  (Below.heap_setCell _ _ _ q h.2).trans ((Below.heap_setCell _ _ _ q h.1).trans ((Below.heap_setCell _ _ _ q h.1).trans (Below.heap_setCell _ _ _ q h.1)))

set_option maxHeartbeats 8000000 in
theorem cheapest_calls (k : Nat) (s0 : List Int) (cv : Value) (mb : Nat) (l : List (List Int × Int)) (n : Nat) (x : Int) (g : Nat) (first caps : Array Value) (f fr : List Int → Int) (w : World)
    (hcf : ∀ (args : Array Value) (W : World), (callFunc g args).run Try.prog W = .ok (.enter g args) W)
    (hk3 : k ≤ 3) (hm : w.heap[mb]? = some (.map (entsOf l) n)) (hf : ∀ p ∈ allP k, lookL l p = f p) (hfb : ∀ p ∈ allP k, 0 ≤ f p ∧ f p ≤ 1000000) (hrb : ∀ p ∈ allP k, 0 ≤ fr p ∧ fr p ≤ 1000000)
    (hfr : ∀ p ∈ allP k, ∀ W, Below w.heap.size w W → Calls Try.prog g (first.push (.agg (sp p)) ++ caps) W fun e W' => e = .returned (.int .i64 (fr p)) ∧ Below W.heap.size W W') :
    Calls Try.prog 61 #[.agg (hl k s0 cv), .map (some mb), .int .i64 x, .func (.func g) first caps] w fun e w' => e = .returned (.agg (sp (chF (fun p => f p + fr p) x (allP k)).1)) ∧ Below w.heap.size w w' := by
  have HM := Aside0.mk hm
  have HF := Aside0.mk hf
  have HFB := Aside0.mk hfb
  have HRB := Aside0.mk hrb
  have HFR := Aside0.mk hfr
  clear hm hf hfb hrb hfr
  refine callsIn_wide (n := 3).1 ?_
  refine callsIn_of_wp_marks Try.func61 rfl trivial ?_
  simp only [Try.ntmps61, List.size_toArray, List.length_cons, List.length_nil, Nat.reduceAdd, Nat.reduceSub, Array.replicate_succ, Array.replicate_zero, List.push_toArray, List.append_toArray, List.nil_append, List.cons_append]
  gi_wp2_with (refine ⟨trivial, ?_⟩; gi_at_call 82; refine callsIn_wide.2 ((all_calls k s0 cv _).mono ?_); rintro e w' ⟨rfl, rfl⟩)
  refine wpcIn_world (fun W => Aside0 (Ch w W k s0 cv mb x (.func (.func g) first caps) ([], -1)) ∧ Aside0 (W.heap[w.heap.size + 7]? = some (.cells (hl k s0 cv) 62 (0, 0))) ∧ Aside0 (W.heap.size = w.heap.size + 8))
    ⟨⟨alo (alo (alo (alo (alo (alo (alo (aln _ _) _) _) _) _) _) _) _, alo (alo (alo (alo (alo (alo (aln' _ _ (by simp)) _) _) _) _) _) _, alo (alo (alo (alo (alo (aln' _ _ (by simp)) _) _) _) _) _, alo (alo (alo (alo (aln' _ _ (by simp)) _) _) _) _, alo (alo (alo (aln' _ _ (by simp)) _) _) _, alo (alo (aln' _ _ (by simp)) _) _, alo (aln' _ _ (by simp)) _,
      below_alloc (below_alloc (below_alloc (below_alloc (below_alloc (below_alloc (below_alloc (below_alloc (Below.refl _ _) _) _) _) _) _) _) _) _⟩, ⟨aln' _ _ (by simp)⟩, ⟨by simp⟩⟩ ?_
  rintro W ⟨HC, HH, HZ⟩
  refine range_all 3 3 (w.heap.size + 7) k s0 cv rfl HH.out hk3 (fun pre V => Ch w V k s0 cv mb x (.func (.func g) first caps) (chF (fun p => f p + fr p) x pre)) ?_ HC.out ?_ ?_
  · intro pre V V' h hb
    exact h.below (by rw [HZ.out]; omega) hb
  · intro pre p V hi hpre hh hsz
    have hsz' := hsz
    rw [HZ.out] at hsz
    have HI := Aside0.mk hi
    have hpa := (fresh_of_prefix hpre).1
    have HPX := Aside0.mk (allP_pos hpa)
    have HPA := Aside0.mk hpa
    have HSN : Aside0 (chF (fun p => f p + fr p) x (pre ++ [p]) = chStep (fun p => f p + fr p) x (chF (fun p => f p + fr p) x pre) p) := ⟨chF_snoc _ _ _ _⟩
    generalize chF (fun p => f p + fr p) x pre = bst at *
    obtain ⟨f0, f1⟩ := HFB.out p hpa
    obtain ⟨g0, g1⟩ := HRB.out p hpa
    clear hi hpre hh hpa
    rw [spv p]
    gi_wp2
    refine ⟨fun q hq => ?_, fun W₂ hSB => ?_⟩
    · rcases hq with h | h
      · exact Below.heap_alloc V _ q (by omega)
      · exact Below.heap_alloc V _ q (by have := h.2; omega)
    have HI2 : Aside0 (Ch w W₂ k s0 cv mb x (.func (.func g) first caps) bst) := ⟨(HI.out.below (B := V.heap.size) (by omega) ((Below.refl _ _).alloc (Nat.le_refl _) (.cells (sp p) 60))).below (B := W.heap.size + 1) (by rw [HZ.out]; omega) (hSB.below (Nat.le_refl _))⟩
    have HX2 : Aside0 (W₂.heap[V.heap.size]? = some (.cells (sp p) 60 (0, 0))) := ⟨(hSB.same _ (by have := HZ.out; omega)).trans (aln _ _)⟩
    have HZ2 : Aside0 (W₂.heap.size = V.heap.size + 1) := ⟨by rw [hSB.size]; simp⟩
    clear hSB HI
    obtain ⟨⟨c0, c1, c2, c3, c4⟩, _⟩ := hl_read HI2.out.h0
    obtain ⟨x0, x1, x2, _, _, _⟩ := sp_read HX2.out
    have m0 := blk_cell HI2.out.h2 0
    simp only [List.getElem?_toArray, List.getElem?_cons_zero] at m0
    by_cases hmem : x ∈ p
    · have HMM := Aside0.mk hmem
      have HM1 := Aside0.mk (decide_eq_true hmem)
      clear hmem
      gi_wp2_with (refine ⟨trivial, ?_⟩; gi_at_call 57; refine CallsIn.inRound (W.heap.size + 1) (callsIn_wide.2 ((has_calls k s0 cv p x _ hk3 HPX.out.len).mono ?_)); rintro e W3 ⟨rfl, hb⟩; rw [HM1.out]; have HI3 : Aside0 (Ch w W3 k s0 cv mb x (.func (.func g) first caps) bst) := ⟨HI2.out.below (B := W₂.heap.size) (by have := HZ2.out; omega) hb⟩; have HX3 : Aside0 (W3.heap[V.heap.size]? = some (.cells (sp p) 60 (0, 0))) := ⟨(hb.block _ (blk_lt HX2.out)).trans HX2.out⟩; have HB3 : Aside0 (Below W₂.heap.size W₂ W3) := ⟨hb⟩; clear hb)
      have HM3 : Aside0 (W3.heap[mb]? = some (.map (entsOf l) n)) := ⟨(HI3.out.hb.block _ (blk_lt HM.out)).trans HM.out⟩
      refine wpIn_region_held (fun U => U.heap[w.heap.size + 1]? = some (.cells #[.map (some mb)] 68 (0, 0)) ∧ U.heap[V.heap.size]? = some (.cells (sp p) 60 (0, 0)) ∧ U.heap[w.heap.size + 3]? = some (.cells #[.func (.func g) first caps] 82 (0, 0)) ∧ U.heap[mb]? = some (.map (entsOf l) n)) (by kernel_rfl) (by kernel_rfl) ?_ ?_
      · intro a' w' h
        have h2 : Exit.outgrown = Exit.normal ∧ _ := h
        cases h2.1
      refine wpAnyH_take (i := 0) (v := .map (some mb)) rfl (by kernel_rfl) (by kernel_rfl) (by kernel_rfl) (fun _ _ _ h => h) (Or.inl ⟨by rfl, ?_⟩) ⟨HI3.out.h1, HX3.out, HI3.out.h3, HM3.out⟩ ?_
      · rintro U ⟨h1, h2, h3, h4⟩
        have m0 := blk_cell h1 0
        simp only [List.getElem?_toArray, List.getElem?_cons_zero] at m0
        go_simp
      refine wpAnyH_take (i := 1) (v := .agg #[.int .i64 (rd p 0), .int .i64 (rd p 1), .int .i64 (rd p 2)]) rfl (by kernel_rfl) (by kernel_rfl) (by kernel_rfl) (fun _ _ _ h => h) (Or.inl ⟨by rfl, ?_⟩) ⟨HI3.out.h1, HX3.out, HI3.out.h3, HM3.out⟩ ?_
      · rintro U ⟨h1, h2, h3, h4⟩
        obtain ⟨x0, x1, x2, _, _, _⟩ := sp_read h2
        go_simp
      refine wpAnyH_take (i := 2) (v := .int .i64 (f p)) rfl (by kernel_rfl) (by kernel_rfl) (by kernel_rfl) (fun _ _ _ h => h) (Or.inl ⟨by rfl, ?_⟩) ⟨HI3.out.h1, HX3.out, HI3.out.h3, HM3.out⟩ ?_
      · rintro U ⟨h1, h2, h3, h4⟩
        have hlk : (Instr.lookup 68 (.map (some mb)) (.agg #[.int .i64 (rd p 0), .int .i64 (rd p 1), .int .i64 (rd p 2)]) false).run Try.prog U = .ok (.int .i64 (lookL l p)) U := lookup_run l n mb p U h4
        rw [HF.out p HPA.out] at hlk
        go_simp
      refine wpAnyH_take (i := 3) (v := .func (.func g) first caps) rfl (by kernel_rfl) (by kernel_rfl) (by kernel_rfl) (fun _ _ _ h => h) (Or.inl ⟨by rfl, ?_⟩) ⟨HI3.out.h1, HX3.out, HI3.out.h3, HM3.out⟩ ?_
      · rintro U ⟨h1, h2, h3, h4⟩
        have m0 := blk_cell h3 0
        simp only [List.getElem?_toArray, List.getElem?_cons_zero] at m0
        go_simp
      refine wpAnyH_take (i := 4) (v := .agg #[.int .i64 (rd p 0), .int .i64 (rd p 1), .int .i64 (rd p 2)]) rfl (by kernel_rfl) (by kernel_rfl) (by kernel_rfl) (fun _ _ _ h => h) (Or.inl ⟨by rfl, ?_⟩) ⟨HI3.out.h1, HX3.out, HI3.out.h3, HM3.out⟩ ?_
      · rintro U ⟨h1, h2, h3, h4⟩
        obtain ⟨x0, x1, x2, _, _, _⟩ := sp_read h2
        go_simp
      refine wpAnyH_ready (rs := [5]) (by kernel_rfl) (by simp) ?_
      refine AllReadyH.cons rfl (fun K hK => ?_) AllReadyH.nil
      go_simp
      refine (HFR.out p HPA.out _ (HI3.out.hb.trans (below_drew1 (Below.refl _ _)))).mono ?_
      rintro e W4 ⟨rfl, hb0⟩
      have hb : Below W3.heap.size W3 W4 := below_step (below_drew1 (Below.refl _ _)) hb0
      clear hb0
      have HI4 : Aside0 (Ch w W4 k s0 cv mb x (.func (.func g) first caps) bst) := ⟨HI3.out.below (B := W3.heap.size) (by have := HI3.out.h6; have := blk_lt this; omega) hb⟩
      have HX4 : Aside0 (W4.heap[V.heap.size]? = some (.cells (sp p) 60 (0, 0))) := ⟨(hb.block _ (blk_lt HX3.out)).trans HX3.out⟩
      have HM4 : Aside0 (W4.heap[mb]? = some (.map (entsOf l) n)) := ⟨(hb.block _ (blk_lt HM3.out)).trans HM3.out⟩
      have HB4 : Aside0 (Below W3.heap.size W3 W4) := ⟨hb⟩
      refine hK _ _ ⟨HI4.out.h1, HX4.out, HI4.out.h3, HM4.out⟩ (fun _ => ?_)
      clear hb hK K
      refine wpAnyH_take (i := 6) (v := .int .i64 (f p + fr p)) rfl (by kernel_rfl) (by kernel_rfl) (by kernel_rfl) (fun _ _ _ h => h) (Or.inl ⟨by rfl, ?_⟩) ⟨HI4.out.h1, HX4.out, HI4.out.h3, HM4.out⟩ ?_
      · rintro U ⟨h1, h2, h3, h4⟩
        go_simp
        exact IntWalk.i64_in _ (by omega)
      refine wpAnyH_take (i := 7) (v := .int .i64 (f p + fr p)) rfl (by kernel_rfl) (by kernel_rfl) (by kernel_rfl) (fun _ _ _ h => h) (Or.inl ⟨by rfl, ?_⟩) ⟨HI4.out.h1, HX4.out, HI4.out.h3, HM4.out⟩ ?_
      · rintro U ⟨h1, h2, h3, h4⟩
        go_simp
      refine wpAnyH_done (by kernel_rfl) ?_ _
      have l0 := blk_cell HI4.out.h6 0
      simp only [List.getElem?_toArray, List.getElem?_cons_zero] at l0
      obtain ⟨y0, y1, y2, _, _, _⟩ := sp_read HX4.out
      obtain ⟨r0, r1, r2, e0, e1, e2⟩ := sp_read HI4.out.h5
      have l1 := blk_frozen HI4.out.h6 0
      have hz := HZ.out
      have hz2 := HZ2.out
      have hwK : 0 ≤ f p + fr p ∧ f p + fr p ≤ 2000000 := by omega
      have HKR : Aside0 (∀ q, (q = w.heap.size + 7 ∨ (W.heap.size ≤ q ∧ q < W.heap.size + 5)) → W4.heap[q]? = W₂.heap[q]?) := ⟨fun q hq => (HB4.out.block q (by have := HB3.out.size; rcases hq with h | h <;> omega)).trans (HB3.out.block q (by rcases hq with h | h <;> omega))⟩
      by_cases hn : bst.2 < 0
      · have hn' := decide_eq_true hn
        have HS2 : Aside0 (chStep (fun p => f p + fr p) x bst p = (p, f p + fr p)) := ⟨by simp [chStep, HMM.out, hn]⟩
        clear hn
        gi_wp2
        exact ⟨fun q hq => (Ch.keep q (by rcases hq with h | h <;> omega)).trans (HKR.out q (by rcases hq with h | h <;> omega)), by rw [HSN.out, HS2.out]; exact HI4.out.set p _⟩
      · have hn' := decide_eq_false hn
        by_cases hlow : f p + fr p < bst.2
        · have HS2 : Aside0 (chStep (fun p => f p + fr p) x bst p = (p, f p + fr p)) := ⟨by simp [chStep, HMM.out, hlow]⟩
          have hl' := decide_eq_true hlow
          clear hn hlow
          gi_wp2
          exact ⟨fun q hq => (Ch.keep q (by rcases hq with h | h <;> omega)).trans (HKR.out q (by rcases hq with h | h <;> omega)), by rw [HSN.out, HS2.out]; exact HI4.out.set p _⟩
        · have HS2 : Aside0 (chStep (fun p => f p + fr p) x bst p = bst) := ⟨by simp [chStep, HMM.out, hlow, hn]⟩
          have hl' := decide_eq_false hlow
          clear hn hlow
          gi_wp2
          exact ⟨fun q hq => HKR.out q (by rcases hq with h | h <;> omega), by rw [HSN.out, HS2.out]; exact HI4.out⟩
    · have HM1 := Aside0.mk (decide_eq_false hmem)
      have HS2 : Aside0 (chStep (fun p => f p + fr p) x bst p = bst) := ⟨by simp [chStep, hmem]⟩
      clear hmem
      gi_wp2_with (refine ⟨trivial, ?_⟩; gi_at_call 57; refine CallsIn.inRound (W.heap.size + 1) (callsIn_wide.2 ((has_calls k s0 cv p x _ hk3 HPX.out.len).mono ?_)); rintro e W3 ⟨rfl, hb⟩; rw [HM1.out]; have HI3 : Aside0 (Ch w W3 k s0 cv mb x (.func (.func g) first caps) bst) := ⟨HI2.out.below (B := W₂.heap.size) (by have := HZ2.out; omega) hb⟩; have HX3 : Aside0 (W3.heap[V.heap.size]? = some (.cells (sp p) 60 (0, 0))) := ⟨(hb.block _ (blk_lt HX2.out)).trans HX2.out⟩; have HB3 : Aside0 (Below W₂.heap.size W₂ W3) := ⟨hb⟩; clear hb)
      have hz := HZ2.out
      have hz' := HZ.out
      exact ⟨fun q hq => HB3.out.block q (by rcases hq with h | h <;> omega), by rw [HSN.out, HS2.out]; exact HI3.out⟩
  · intro W' hi hd hsz
    have HI := Aside0.mk hi
    have HDD := Aside0.mk hd
    obtain ⟨r0, r1, r2, e0, e1, e2⟩ := sp_read HI.out.h5
    obtain ⟨x0, x1, x2, d0, d1, d2⟩ := sp_read HI.out.h4
    clear hi hd
    gi_wp2
    have hne : W.heap.size ≠ w.heap.size + 4 := by have := HZ.out; omega
    refine ⟨by simp, .inl ⟨_, _, rfl, run_takeDeferred (((Below.heap_setCell _ _ _ _ hne).trans ((Below.heap_setCell _ _ _ _ hne).trans (Below.heap_setCell _ _ _ _ hne))).trans HDD.out), ?_⟩⟩
    refine ⟨_, results_single rfl (.cell (w.heap.size + 4) 60 (sp _) (0, 0) _ rfl ?_ Try.underlying60 rfl size60 .nil), rfl, ?_⟩
    · exact (World.putObj_heap_other (Ne.symm hne)).trans (sp_store3 _ HI.out.h4)
    · exact (((HI.out.hb.setCell (show w.heap.size ≤ w.heap.size + 4 by omega) _).setCell (show w.heap.size ≤ w.heap.size + 4 by omega) _).setCell (show w.heap.size ≤ w.heap.size + 4 by omega) _).trans ((sameBut_put _ _ _).below (by have := HZ.out; omega))
end Go.Proofs.Ythadaajgjloogaa.L

namespace Go.Proofs.Ythadaajgjloogaa.L
open Go.RowKit Go.Shelf Go.Proofs.YthadaajgjloogaaW.PrintWords Go.Proofs.YthadaajgjloogaaW.PrintLast Go.Proofs.YthadaajgjloogaaW.PrintMore

/-! ### sorted positions -/
theorem gen_of_sorted : ∀ (d : Nat) (r p : List Int) (f : Nat), r.length = d → (∀ y ∈ r, (f : Int) ≤ y ∧ y ≤ 30) → r.Pairwise (· ≤ ·) → p ++ r ∈ gen d p f
  | 0, r, p, f, hr, _, _ => by
    have : r = [] := List.length_eq_zero_iff.1 hr
    simp [gen, this]
  | d + 1, [], p, f, hr, _, _ => by simp at hr
  | d + 1, y :: r, p, f, hr, hb, hs => by
    have hy := hb y (by simp)
    obtain ⟨h1, h2⟩ := List.pairwise_cons.1 hs
    simp only [gen, List.mem_flatMap, List.mem_range]
    refine ⟨y.toNat - f, by omega, ?_⟩
    have e : ((f + (y.toNat - f) : Nat) : Int) = y := by omega
    have := gen_of_sorted d r (p ++ [y]) (f + (y.toNat - f)) (by simpa using hr) (fun z hz => ⟨by rw [e]; exact h1 z hz, (hb z (by simp [hz])).2⟩) h2
    rw [e]
    simpa using this
theorem allP_of_sorted {k : Nat} {x : List Int} (h : Pos k x) (hs : x.Pairwise (· ≤ ·)) : x ∈ allP k := by
  have := gen_of_sorted k x [] 0 h.len (fun y hy => by have := h.all y hy; omega) hs
  simpa [allP] using this
theorem srt_sorted (s : List Int) : (srt s).Pairwise (· ≤ ·) := by
  have h := List.pairwise_mergeSort (le := fun x y : Int => decide (x ≤ y)) (fun a b c h1 h2 => by simp at *; omega) (fun a b => by simp; omega) s
  exact h.imp (by simp)
theorem srt_allP {k : Nat} {s : List Int} (h : Pos k s) : srt s ∈ allP k := allP_of_sorted h.srt (srt_sorted s)
theorem pos_set {k : Nat} {s : List Int} (h : Pos k s) (i : Nat) {x : Int} (hx : 0 ≤ x ∧ x ≤ 30) : Pos k (s.set i x) := ⟨by simp [h.len], fun y hy => by
  rcases List.mem_or_eq_of_mem_set hy with h1 | h1
  · exact h.all y h1
  · rw [h1]; exact hx⟩

/-! ### the works after one more call, as numbers -/
def aftV (f : List Int → Int) (x : Int) (p : List Int) (i : Nat) : Int := f (srt (p.set i x)) + ab (rd p i) x
def aftB (f : List Int → Int) (x : Int) (p : List Int) : Nat → Int
  | 0 => aftV f x p 0
  | j + 1 => if aftV f x p (j + 1) < aftB f x p j then aftV f x p (j + 1) else aftB f x p j
def aftF (k : Nat) (f : List Int → Int) (x : Int) (p : List Int) : Int := aftB f x p (k - 1)
theorem ab_r30 {a b : Int} (ha : 0 ≤ a ∧ a ≤ 30) (hb : 0 ≤ b ∧ b ≤ 30) : 0 ≤ ab a b ∧ ab a b ≤ 30 := by unfold ab; split <;> omega
theorem aftV_range {k : Nat} {f : List Int → Int} {B : Int} (hf : ∀ p ∈ allP k, 0 ≤ f p ∧ f p ≤ B) {x : Int} (hx : 0 ≤ x ∧ x ≤ 30) {p : List Int} (hp : Pos k p) {i : Nat} (hi : i < k) : 0 ≤ aftV f x p i ∧ aftV f x p i ≤ B + 30 := by
  have h1 := hf _ (srt_allP (pos_set hp i hx))
  have h2 := ab_r30 (hp.all _ (rd_mem (by rw [hp.len]; exact hi))) hx
  unfold aftV; omega
theorem aftB_range {k : Nat} {f : List Int → Int} {B : Int} (hf : ∀ p ∈ allP k, 0 ≤ f p ∧ f p ≤ B) {x : Int} (hx : 0 ≤ x ∧ x ≤ 30) {p : List Int} (hp : Pos k p) : ∀ j, j < k → 0 ≤ aftB f x p j ∧ aftB f x p j ≤ B + 30
  | 0, h => aftV_range hf hx hp h
  | j + 1, h => by
    have h1 := aftB_range hf hx hp j (by omega)
    have h2 := aftV_range hf hx hp h
    unfold aftB; split <;> omega
theorem aftF_range {k : Nat} (hk : 1 ≤ k) {f : List Int → Int} {B : Int} (hf : ∀ p ∈ allP k, 0 ≤ f p ∧ f p ≤ B) {x : Int} (hx : 0 ≤ x ∧ x ≤ 30) {p : List Int} (hp : p ∈ allP k) : 0 ≤ aftF k f x p ∧ aftF k f x p ≤ B + 30 := aftB_range hf hx (allP_pos hp) _ (by omega)

/-- In block mb lies the map of all positions of k lifts to their f. -/
def MapF (W : World) (mb k : Nat) (f : List Int → Int) : Prop := ∃ l : List (List Int × Int), W.heap[mb]? = some (.map (entsOf l) l.length) ∧ (l.map (·.1)).Perm (allP k) ∧ ∀ p ∈ allP k, lookL l p = f p
theorem MapF.below {W W2 : World} {mb k : Nat} {f : List Int → Int} (h : MapF W mb k f) {B : Nat} (hm : mb < B) (hb : Below B W W2) : MapF W2 mb k f := by
  obtain ⟨l, h1, h2⟩ := h
  exact ⟨l, (hb.block _ hm).trans h1, h2⟩
theorem MapF.lt {W : World} {mb k : Nat} {f : List Int → Int} (h : MapF W mb k f) : mb < W.heap.size := by obtain ⟨l, h1, _⟩ := h; exact blk_lt h1

/-! ### the round over a map -/
def kyL (l : List (List Int × Int)) (j : Nat) : List Int := (l.getD j ([], 0)).1
def outL (l : List (List Int × Int)) (g : List Int → Int) (js : List Nat) : List (List Int × Int) := js.map fun j => (kyL l j, g (kyL l j))
theorem kyL_get {l : List (List Int × Int)} {j : Nat} (h : j < l.length) : kyL l j = l[j].1 := by simp [kyL, List.getD, h]
theorem left_mem {l : List (List Int × Int)} {js : List Nat} {e : MapEntry} (h : e ∈ (leftOf (entsOf l) js.toArray).toList) : ∃ j, j < l.length ∧ e.key = .agg (sp (kyL l j)) ∧ e.born = j ∧ j ∉ js := by
  simp only [leftOf, entsOf] at h
  simp only [Array.mem_toList_iff, Array.mem_filter, List.mem_toArray] at h
  obtain ⟨h1, h2⟩ := h
  rw [List.mem_mapIdx] at h1
  obtain ⟨j, hj, rfl⟩ := h1
  refine ⟨j, hj, by simp [entOf, kyL_get hj], rfl, ?_⟩
  simpa [entOf] using h2
theorem left_none {l : List (List Int × Int)} {js : List Nat} (h : (leftOf (entsOf l) js.toArray).size = 0) (j : Nat) (hj : j < l.length) : j ∈ js := by
  have h0 : leftOf (entsOf l) js.toArray = #[] := Array.eq_empty_of_size_eq_zero h
  simp only [leftOf, entsOf] at h0
  rw [Array.filter_eq_empty_iff] at h0
  have := h0 (entOf j l[j]) (by simp only [List.mem_toArray, List.mem_mapIdx]; exact ⟨j, hj, rfl⟩)
  simpa [entOf] using this
theorem left_lt {l : List (List Int × Int)} {js : List Nat} {j : Nat} (hj : j < l.length) (hn : j ∉ js) : (leftOf (entsOf l) (js ++ [j]).toArray).size < (leftOf (entsOf l) js.toArray).size := by
  have hm : entOf j l[j] ∈ (leftOf (entsOf l) js.toArray).toList := by
    simp only [leftOf, entsOf, Array.mem_toList_iff, Array.mem_filter, List.mem_toArray]
    exact ⟨List.mem_mapIdx.2 ⟨j, hj, rfl⟩, by simpa [entOf] using hn⟩
  have := left_shrinks (entsOf l) js.toArray _ hm
  simpa [entOf] using this
theorem born_lt (l : List (List Int × Int)) : ∀ x ∈ (entsOf l).toList, x.born < l.length := by
  intro x hx
  simp only [entsOf] at hx
  rw [List.mem_mapIdx] at hx
  obtain ⟨j, hj, rfl⟩ := hx
  exact hj
theorem born_nodup (l : List (List Int × Int)) : ((entsOf l).toList.map (·.born)).Nodup := by
  have : (entsOf l).toList.map (·.born) = List.range l.length := by
    simp only [entsOf]
    rw [List.mapIdx_eq_zipIdx_map]
    simp only [List.map_map]
    apply List.ext_getElem
    · simp
    · intro i h1 h2; simp [entOf]
  rw [this]; exact List.nodup_range
theorem kyL_inj {l : List (List Int × Int)} {k : Nat} (hp : (l.map (·.1)).Perm (allP k)) {i j : Nat} (hi : i < l.length) (hj : j < l.length) (h : kyL l i = kyL l j) : i = j := by
  have hn : (l.map (·.1)).Nodup := (hp.nodup_iff).2 (allP_nodup k)
  rw [kyL_get hi, kyL_get hj] at h
  have := (List.getElem_inj (xs := l.map (·.1)) (i := i) (j := j) (h₀ := by simpa using hi) (h₁ := by simpa using hj) hn).1 (by simpa using h)
  exact this
theorem kyL_allP {l : List (List Int × Int)} {k : Nat} (hp : (l.map (·.1)).Perm (allP k)) {i : Nat} (hi : i < l.length) : kyL l i ∈ allP k := by
  refine hp.mem_iff.1 ?_
  rw [kyL_get hi]
  exact List.mem_map.2 ⟨l[i], List.getElem_mem hi, rfl⟩
theorem out_fresh {l : List (List Int × Int)} {k : Nat} (hk : k ≤ 3) (hp : (l.map (·.1)).Perm (allP k)) {g : List Int → Int} {js : List Nat} (hjs : ∀ i ∈ js, i < l.length) {j : Nat} (hj : j < l.length) (hn : j ∉ js) : findL (kyL l j) (outL l g js) 0 = none := by
  refine findL_none _ _ fun q hq => ?_
  simp only [outL, List.mem_map] at hq
  obtain ⟨i, hi, rfl⟩ := hq
  cases h : eq3 (kyL l j) (kyL l i)
  · rfl
  · have e := (eq3_iff (allP_pos (kyL_allP hp hj)).len (allP_pos (kyL_allP hp (hjs i hi))).len hk).1 h
    exact absurd (kyL_inj hp hj (hjs i hi) e ▸ hi) hn
theorem outL_snoc (l : List (List Int × Int)) (g : List Int → Int) (js : List Nat) (j : Nat) : outL l g (js ++ [j]) = outL l g js ++ [(kyL l j, g (kyL l j))] := by simp [outL]
theorem out_all {l : List (List Int × Int)} {k : Nat} (hk : k ≤ 3) (hp : (l.map (·.1)).Perm (allP k)) {g : List Int → Int} {js : List Nat} (hd : js.Nodup) (hjs : ∀ i ∈ js, i < l.length) (hall : ∀ j, j < l.length → j ∈ js) :
    ((outL l g js).map (·.1)).Perm (allP k) ∧ ∀ p ∈ allP k, lookL (outL l g js) p = g p := by
  have hr : js.Perm (List.range l.length) := (List.perm_ext_iff_of_nodup hd List.nodup_range).2 fun i => by rw [List.mem_range]; exact ⟨hjs i, hall i⟩
  have e1 : (outL l g js).map (·.1) = js.map (kyL l) := by simp [outL]
  have e2 : (List.range l.length).map (kyL l) = l.map (·.1) := by
    apply List.ext_getElem
    · simp
    · intro i h1 h2
      simp only [List.length_map] at h2
      simp [kyL_get h2]
  have hP : ((outL l g js).map (·.1)).Perm (allP k) := by
    rw [e1]
    exact ((hr.map (kyL l)).trans (by rw [e2])).trans hp
  refine ⟨hP, fun p hpp => ?_⟩
  have hm := hP.mem_iff.2 hpp
  rw [e1] at hm
  obtain ⟨j, hj, rfl⟩ := List.mem_map.1 hm
  refine lookL_mem (List.mem_map.2 ⟨j, hj, rfl⟩) fun q hq he => ?_
  simp only [outL, List.mem_map] at hq
  obtain ⟨i, hi, rfl⟩ := hq
  have e := (eq3_iff (allP_pos (kyL_allP hp (hjs j hj))).len (allP_pos (kyL_allP hp (hjs i hi))).len hk).1 he
  rw [e]

theorem first_MapF {W : World} {mb k : Nat} (hk : k ≤ 3) (s : List Int) (h : W.heap[mb]? = some (.map (entsOf (firstL s (allP k))) (firstL s (allP k)).length)) : MapF W mb k (distF s) := by
  refine ⟨_, h, by simp [firstL, Function.comp_def], fun p hp => lookL_mem (List.mem_map.2 ⟨p, hp, rfl⟩) fun q hq he => ?_⟩
  simp only [firstL, List.mem_map] at hq
  obtain ⟨p', hp', rfl⟩ := hq
  have e := (eq3_iff (allP_pos hp).len (allP_pos hp').len hk).1 he
  rw [e]
end Go.Proofs.Ythadaajgjloogaa.L

namespace Go.Proofs.Ythadaajgjloogaa.L
open Go.RowKit Go.Shelf Go.Proofs.YthadaajgjloogaaW.PrintWords Go.Proofs.YthadaajgjloogaaW.PrintLast Go.Proofs.YthadaajgjloogaaW.PrintMore
attribute [local go_sem] max2_int min2_int max_two min_two max_three min_three max_four min_four
attribute [local go_sem] Oper.semAt_some

structure Aw (w W : World) (k : Nat) (s0 : List Int) (cv : Value) (mb : Nat) (l : List (List Int × Int)) (g : List Int → Int) (js ji : List Nat) : Prop where
  h0 : W.heap[w.heap.size]? = some (.cells (hl k s0 cv) 62 (0, 0))
  ho : W.heap[w.heap.size + 1]? = some (.map (entsOf (outL l g js)) (outL l g js).length)
  hi : W.heap[w.heap.size + 2]? = some (.mapIter (some mb) l.length ji.toArray l.length)
  hm : W.heap[mb]? = some (.map (entsOf l) l.length)
  hb : Below w.heap.size w W
theorem Aw.below {w W W2 : World} {k : Nat} {s0 : List Int} {cv : Value} {mb : Nat} {l : List (List Int × Int)} {g : List Int → Int} {js ji : List Nat} (h : Aw w W k s0 cv mb l g js ji) (hmb : mb < w.heap.size) {B : Nat} (hB : w.heap.size + 3 ≤ B) (hb : Below B W W2) : Aw w W2 k s0 cv mb l g js ji :=
  ⟨(hb.block _ (by omega)).trans h.h0, (hb.block _ (by omega)).trans h.ho, (hb.block _ (by omega)).trans h.hi, (hb.block _ (by omega)).trans h.hm, h.hb.trans (hb.mono (by omega))⟩

set_option maxHeartbeats 8000000 in
theorem after_calls (k : Nat) (s0 : List Int) (cv : Value) (mb : Nat) (f : List Int → Int) (B : Int) (x : Int) (w : World) (hk1 : 1 ≤ k) (hk3 : k ≤ 3) (hx : 0 ≤ x ∧ x ≤ 30) (hM : MapF w mb k f) (hf : ∀ p ∈ allP k, 0 ≤ f p ∧ f p ≤ B) (hB : B ≤ 1000000) :
    Calls Try.prog 50 #[.agg (hl k s0 cv), .map (some mb), .int .i64 x] w fun e w' => e = .returned (.map (some (w.heap.size + 1))) ∧ MapF w' (w.heap.size + 1) k (aftF k f x) ∧ Below w.heap.size w w' := by
  have hmm := @run_makeMap Try.prog
  obtain ⟨l, hM0, hP0, hL0⟩ := hM
  have HM := Aside0.mk hM0
  have HP := Aside0.mk hP0
  have HL := Aside0.mk hL0
  have HF := Aside0.mk hf
  have HX := Aside0.mk hx
  have hmb : mb < w.heap.size := blk_lt hM0
  clear hM0 hP0 hL0 hf hx
  go_enter Try.func50, Try.ntmps50
  go_upto_region 2 with (fail)
  refine wpc_world (fun W => Aside0 (W.heap[w.heap.size]? = some (.cells (hl k s0 cv) 62 (0, 0))) ∧ Aside0 (W.heap[w.heap.size + 1]? = some (.map #[] 0)) ∧ Aside0 (W.heap.size = w.heap.size + 2) ∧ Aside0 (Below w.heap.size w W)) ⟨⟨alo (aln _ _) _⟩, ⟨aln' _ _ (by simp)⟩, ⟨by simp⟩, ⟨below_alloc (below_alloc (Below.refl _ _) _) _⟩⟩ ?_
  rintro W ⟨H0, HO, HZ, HB⟩
  have hrg := run_range_map W 68 60 3 mb (entsOf l) l.length Try.underlying68 ((HB.out.block _ hmb).trans HM.out)
  go_wp2
  clear hrg
  rw [HZ.out]
  have HA : Aside0 (Aw w (W.alloc (.mapIter (some mb) l.length #[] l.length)) k s0 cv mb l (aftF k f x) [] []) := ⟨⟨alo H0.out _, alo HO.out _, aln' _ _ HZ.out.symm, alo ((HB.out.block _ hmb).trans HM.out) _, below_alloc HB.out _⟩⟩
  go_loopw [9, 10] (fun _ _ wr => ∃ js : List Nat, js.Nodup ∧ (∀ i ∈ js, i < l.length) ∧ Aside0 (Aw w wr k s0 cv mb l (aftF k f x) js js)) (fun _ _ wr => wr.rangeLeft mb (w.heap.size + 2))
  case atStart => exact ⟨[], List.nodup_nil, by simp, HA⟩
  case round =>
    clear HA H0 HO HZ HB
    obtain ⟨js, hnd, hjs, HA⟩ := hrel
    have hml : wr.rangeLeft mb (w.heap.size + 2) = (leftOf (entsOf l) js.toArray).size := by simp only [World.rangeLeft, HA.out.hm, HA.out.hi]
    rcases run_next_at (P := Try.prog) wr 0 (w.heap.size + 2) mb l.length l.length js.toArray (entsOf l) l.length HA.out.hi HA.out.hm (born_lt l) (Nat.le_refl _) with ⟨h0, hnx⟩ | ⟨e, he, w1, hal, hnx⟩
    · go_wp2
      go_ret
      exact ⟨rfl, ⟨_, HA.out.ho, out_all hk3 HP.out hnd hjs (left_none h0)⟩, HA.out.hb⟩
    · obtain ⟨j, hj, hky, hbn, hnj⟩ := left_mem he
      have hlt := left_lt hj hnj
      have HPA := Aside0.mk (kyL_allP HP.out hj)
      have HPX := Aside0.mk (allP_pos HPA.out)
      have HFR := Aside0.mk (out_fresh hk3 HP.out (g := aftF k f x) hjs hj hnj)
      have HSN := Aside0.mk (outL_snoc l (aftF k f x) js j)
      have HND : Aside0 ((js ++ [j]).Nodup) := ⟨by rw [List.nodup_append]; exact ⟨hnd, by simp, by intro a ha b hb; simp at hb; subst hb; intro h; exact hnj (h ▸ ha)⟩⟩
      have HJS : Aside0 (∀ i ∈ js ++ [j], i < l.length) := ⟨by intro i hi; rcases List.mem_append.1 hi with h | h; exact hjs i h; simp at h; omega⟩
      have hr1 : w1.heap[w.heap.size + 2]? = some (.mapIter (some mb) l.length js.toArray l.length) := by rcases hal with rfl | rfl <;> exact HA.out.hi
      have hb1 : Below wr.heap.size wr w1 := by rcases hal with rfl | rfl; exact Below.refl _ _; exact below_drew1 (Below.refl _ _)
      obtain ⟨W1, hW1⟩ : ∃ W1, ChangeMaps.setBlock w1 (w.heap.size + 2) (.mapIter (some mb) l.length (js.toArray.push e.born) l.length) = W1 := ⟨_, rfl⟩
      rw [hW1] at hnx
      have hA1 : Aw w W1 k s0 cv mb l (aftF k f x) js (js ++ [j]) := by
        have hs : SameBut (w.heap.size + 2) w1 W1 := by rw [← hW1]; exact sameBut_put _ _ _
        have hh := blk_lt HA.out.hi
        refine ⟨(hs.same _ (by omega)).trans ((hb1.block _ (by omega)).trans HA.out.h0), (hs.same _ (by omega)).trans ((hb1.block _ (by omega)).trans HA.out.ho), ?_, (hs.same _ (by omega)).trans ((hb1.block _ (by omega)).trans HA.out.hm), (HA.out.hb.trans (hb1.mono (by omega))).trans (hs.below (by omega))⟩
        rw [← hW1, hbn, List.push_toArray]
        exact (MapKept.heap_set hr1).1
      have hen := run_entry_at (P := Try.prog) W1 (w.heap.size + 2) mb l.length js.toArray (entsOf l) l.length e (by rw [hA1.hi, hbn, List.push_toArray]) hA1.hm (mem_left he).1 (born_nodup l)
      rw [hky] at hnx hen
      have HA1 := Aside0.mk hA1
      have HNL : Aside0 ((leftOf (entsOf l) (js ++ [j]).toArray).size < wr.rangeLeft mb (w.heap.size + 2)) := ⟨by rw [hml]; exact hlt⟩
      generalize kyL l j = p at *
      rw [spv p] at hnx hen
      have HJS2 := Aside0.mk hjs
      clear hr1 hb1 hA1 he hal hW1 hlt hnj hml hky hbn hnd hjs HA
      go_upto_region 5 with (fail)
      have hz1 : w.heap.size + 3 ≤ W1.heap.size := by have := blk_lt HA1.out.hi; omega
      refine wpc_world (fun V => Aside0 (Aw w V k s0 cv mb l (aftF k f x) js (js ++ [j])) ∧ Aside0 (V.heap[W1.heap.size]? = some (.cells (sp p) 60 (0, 0)))) ⟨⟨HA1.out.below hmb (B := W1.heap.size) hz1 ((Below.refl _ _).alloc (Nat.le_refl _) _)⟩, ⟨aln _ _⟩⟩ ?_
      clear hnx hen
      clear HA1
      rintro V ⟨HA, HS⟩
      obtain ⟨⟨c0, c1, c2, c3, c4⟩, _⟩ := hl_read HA.out.h0
      obtain ⟨r0, r1, r2, _, _, _⟩ := sp_read HS.out
      have hm0 := HA.out.hm
      have hx0 := HX.out.1
      have hx1 := HX.out.2
      have hp0 : 0 ≤ rd p 0 ∧ rd p 0 ≤ 30 := HPX.out.all _ (rd_mem (i := 0) (by rw [HPX.out.len]; omega))
      have HC0 : Aside0 (∀ V, Calls Try.prog 83 #[.agg (hl k s0 cv), .agg (sp p), .int .i64 0, .int .i64 x] V fun e w' => e = .returned (.agg (sp (srt (p.set 0 x)))) ∧ Below V.heap.size V w') := ⟨fun V => moved_calls k s0 cv p 0 x V hk3 HPX.out.len (by omega)⟩
      have HF0 := Aside0.mk (HF.out _ (srt_allP (pos_set HPX.out 0 HX.out)))
      have HLK : Aside0 (∀ U, U.heap[mb]? = some (.map (entsOf l) l.length) → (Instr.lookup 68 (.map (some mb)) (.agg #[.int .i64 (rd (srt (p.set 0 x)) 0), .int .i64 (rd (srt (p.set 0 x)) 1), .int .i64 (rd (srt (p.set 0 x)) 2)]) false).run Try.prog U = .ok (.int .i64 (f (srt (p.set 0 x)))) U) := ⟨fun U hU => by rw [← HL.out _ (srt_allP (pos_set HPX.out 0 HX.out))]; exact lookup_run l _ mb (srt (p.set 0 x)) U hU⟩
      have HV0 : Aside0 (aftV f x p 0 = f (srt (p.set 0 x)) + ab (rd p 0) x) := ⟨rfl⟩
      have HV1 := Aside0.mk (aftV_range HF.out HX.out HPX.out (i := 0) (by omega))
      have hwr : IntKind.i64.wrap (f (srt (p.set 0 x)) + ab (rd p 0) x) = f (srt (p.set 0 x)) + ab (rd p 0) x := IntWalk.i64_in _ (by have := HV1.out; rw [HV0.out] at this; omega)
      go_region_held3 (fun U => U.cell? ⟨w.heap.size, 0, none⟩ = some (.int .i64 k) ∧ U.cell? ⟨w.heap.size, 1, none⟩ = some (.int .i64 (rd s0 0)) ∧ U.cell? ⟨w.heap.size, 2, none⟩ = some (.int .i64 (rd s0 1)) ∧ U.cell? ⟨w.heap.size, 3, none⟩ = some (.int .i64 (rd s0 2)) ∧ U.cell? ⟨w.heap.size, 4, none⟩ = some cv ∧
        U.cell? ⟨W1.heap.size, 0, none⟩ = some (.int .i64 (rd p 0)) ∧ U.cell? ⟨W1.heap.size, 1, none⟩ = some (.int .i64 (rd p 1)) ∧ U.cell? ⟨W1.heap.size, 2, none⟩ = some (.int .i64 (rd p 2))) (go_keep)
        (first
          | (go_at_call 83; refine (HC0.out _).mono ?_; rintro e V3 ⟨rfl, hb0⟩; rw [spv (srt _)]; have HB3 : Aside0 (Below V.heap.size V V3) := ⟨below_step (below_drew1 (Below.refl _ _)) hb0⟩; clear hb0; have HA3 : Aside0 (Aw w V3 k s0 cv mb l (aftF k f x) js (js ++ [j])) := ⟨HA.out.below hmb (B := V.heap.size) (by have := blk_lt HS.out; omega) HB3.out⟩; have HS3 : Aside0 (V3.heap[W1.heap.size]? = some (.cells (sp p) 60 (0, 0))) := ⟨(HB3.out.block _ (blk_lt HS.out)).trans HS.out⟩; obtain ⟨⟨c0, c1, c2, c3, c4⟩, _⟩ := hl_read HA3.out.h0; obtain ⟨r0, r1, r2, _, _, _⟩ := sp_read HS3.out; have hlk := HLK.out V3 HA3.out.hm)
          | (go_at_call 84; refine (away_calls _ _ _ (by omega) (by omega)).mono ?_; rintro e w' ⟨rfl, rfl⟩))
      all_goals (
        rw [← HV0.out]
        have hin : Aside0 (∀ q, q < V.heap.size → q ≠ 0 ∨ True) := ⟨fun _ _ => Or.inr trivial⟩
        clear hin hm0 hwr hlk c0 c1 c2 c3 c4 r0 r1 r2 hp0 HC0 HF0 HLK HV0 HV1 HA HS HB3
        go_wp2
        go_loopw [9, 10] (fun v9 v10 U => ∃ i : Nat, 1 ≤ i ∧ i ≤ k ∧ v10 = .int .i64 i ∧ v9 = .int .i64 (aftB f x p (i - 1)) ∧ Aside0 (Aw w U k s0 cv mb l (aftF k f x) js (js ++ [j])) ∧ Aside0 (U.heap[W1.heap.size]? = some (.cells (sp p) 60 (0, 0)))) (fun _ v10 _ => k - (intOf v10).toNat)
        case atStart => exact ⟨1, Nat.le_refl _, hk1, rfl, rfl, HA3, HS3⟩
        case round =>
          clear HA3 HS3
          obtain ⟨i, hi1, hik, rfl, rfl, HA, HS⟩ := hrel
          by_cases hlt : i < k
          · obtain ⟨⟨c0, c1, c2, c3, c4⟩, _⟩ := hl_read HA.out.h0
            obtain ⟨r0, r1, r2, _, _, _⟩ := sp_read HS.out
            have ri := sp_cell HS.out i (by omega)
            have hi3 : (i : Int) < 3 := by omega
            have hiI : (1 : Int) ≤ i := by omega
            have hpi := HPX.out.all (rd p i) (rd_mem (by rw [HPX.out.len]; exact hlt))
            have HCI : Aside0 (∀ V, Calls Try.prog 83 #[.agg (hl k s0 cv), .agg (sp p), .int .i64 i, .int .i64 x] V fun e w' => e = .returned (.agg (sp (srt (p.set i x)))) ∧ Below V.heap.size V w') := ⟨fun V => moved_calls k s0 cv p i x V hk3 HPX.out.len hlt⟩
            have HLK : Aside0 (∀ U, U.heap[mb]? = some (.map (entsOf l) l.length) → (Instr.lookup 68 (.map (some mb)) (.agg #[.int .i64 (rd (srt (p.set i x)) 0), .int .i64 (rd (srt (p.set i x)) 1), .int .i64 (rd (srt (p.set i x)) 2)]) false).run Try.prog U = .ok (.int .i64 (f (srt (p.set i x)))) U) := ⟨fun U hU => by rw [← HL.out _ (srt_allP (pos_set HPX.out i HX.out))]; exact lookup_run l _ mb (srt (p.set i x)) U hU⟩
            have HV0 : Aside0 (aftV f x p i = f (srt (p.set i x)) + ab (rd p i) x) := ⟨rfl⟩
            have HV1 := Aside0.mk (aftV_range HF.out HX.out HPX.out hlt)
            have hwr : IntKind.i64.wrap (f (srt (p.set i x)) + ab (rd p i) x) = f (srt (p.set i x)) + ab (rd p i) x := IntWalk.i64_in _ (by have := HV1.out; rw [HV0.out] at this; omega)
            have HBS : Aside0 (aftB f x p i = if f (srt (p.set i x)) + ab (rd p i) x < aftB f x p (i - 1) then f (srt (p.set i x)) + ab (rd p i) x else aftB f x p (i - 1)) := ⟨by rw [← HV0.out]; obtain ⟨m, rfl⟩ : ∃ m, i = m + 1 := ⟨i - 1, by omega⟩; rfl⟩
            have HBP := Aside0.mk (aftB_range HF.out HX.out HPX.out (i - 1) (by omega))
            go_upto_region 9 with (fail)
            go_region_held3 (fun U => U.cell? ⟨w.heap.size, 0, none⟩ = some (.int .i64 k) ∧ U.cell? ⟨w.heap.size, 1, none⟩ = some (.int .i64 (rd s0 0)) ∧ U.cell? ⟨w.heap.size, 2, none⟩ = some (.int .i64 (rd s0 1)) ∧ U.cell? ⟨w.heap.size, 3, none⟩ = some (.int .i64 (rd s0 2)) ∧ U.cell? ⟨w.heap.size, 4, none⟩ = some cv ∧
              U.cell? ⟨W1.heap.size, 0, none⟩ = some (.int .i64 (rd p 0)) ∧ U.cell? ⟨W1.heap.size, 1, none⟩ = some (.int .i64 (rd p 1)) ∧ U.cell? ⟨W1.heap.size, 2, none⟩ = some (.int .i64 (rd p 2)) ∧ U.cell? ⟨W1.heap.size, i, none⟩ = some (.int .i64 (rd p i))) (go_keep)
              (first
                | (go_at_call 83; refine (HCI.out _).mono ?_; rintro e V3 ⟨rfl, hb0⟩; rw [spv (srt _)]; have HB3 : Aside0 (Below wr.heap.size wr V3) := ⟨below_step (below_drew1 (Below.refl _ _)) hb0⟩; clear hb0; have HA3 : Aside0 (Aw w V3 k s0 cv mb l (aftF k f x) js (js ++ [j])) := ⟨HA.out.below hmb (B := wr.heap.size) (by have := blk_lt HS.out; omega) HB3.out⟩; have HS3 : Aside0 (V3.heap[W1.heap.size]? = some (.cells (sp p) 60 (0, 0))) := ⟨(HB3.out.block _ (blk_lt HS.out)).trans HS.out⟩; obtain ⟨⟨c0, c1, c2, c3, c4⟩, _⟩ := hl_read HA3.out.h0; obtain ⟨r0, r1, r2, _, _, _⟩ := sp_read HS3.out; have ri := sp_cell HS3.out i (by omega); have hlk := HLK.out V3 HA3.out.hm)
                | (go_at_call 84; refine (away_calls _ _ _ (by omega) (by omega)).mono ?_; rintro e w' ⟨rfl, rfl⟩))
            all_goals (
              rw [← HBS.out]
              clear c0 c1 c2 c3 c4 r0 r1 r2 ri hlk hwr
              go_wp2
              go_roundw
              case rel => exact ⟨i + 1, by omega, by omega, by go_num, by rw [show i + 1 - 1 = i by omega], HA3, HS3⟩
              case measure => simp [intOf]; omega)
          · obtain rfl : i = k := by omega
            have HE : Aside0 (aftB f x p (i - 1) = aftF i f x p) := ⟨rfl⟩
            rw [HE.out]
            obtain ⟨⟨c0, c1, c2, c3, c4⟩, _⟩ := hl_read HA.out.h0
            obtain ⟨r0, r1, r2, _, _, _⟩ := sp_read HS.out
            have hup : (Instr.mapUpdate 68 (.map (some (w.heap.size + 1))) (.agg #[.int .i64 (rd p 0), .int .i64 (rd p 1), .int .i64 (rd p 2)]) (.int .i64 (aftF i f x p))).run Try.prog wr = .ok () (wr.putObj (w.heap.size + 1) (.map (entsOf (outL l (aftF i f x) (js ++ [j]))) (outL l (aftF i f x) (js ++ [j])).length)) := by
              rw [HSN.out]
              exact update_run (outL l (aftF i f x) js) (w.heap.size + 1) p (aftF i f x p) wr HA.out.ho HFR.out
            go_wp2
            go_roundw
            case rel =>
              have hz := blk_lt HA.out.hi
              exact ⟨js ++ [j], HND.out, HJS.out, ⟨⟨(World.putObj_heap_other (by omega)).trans HA.out.h0, World.putObj_heap_same (by omega), (World.putObj_heap_other (by omega)).trans HA.out.hi, (World.putObj_heap_other (by omega)).trans HA.out.hm, HA.out.hb.trans ((sameBut_put _ _ _).below (by omega))⟩⟩⟩
            case measure =>
              refine Nat.lt_of_le_of_lt (Nat.le_of_eq ?_) HNL.out
              have hz := blk_lt HA.out.hi
              have e1 := (World.putObj_heap_other (w := wr) (o := .map (entsOf (outL l (aftF i f x) (js ++ [j]))) (outL l (aftF i f x) (js ++ [j])).length) (show mb ≠ w.heap.size + 1 by omega)).trans HA.out.hm
              have e2 := (World.putObj_heap_other (w := wr) (o := .map (entsOf (outL l (aftF i f x) (js ++ [j]))) (outL l (aftF i f x) (js ++ [j])).length) (show w.heap.size + 2 ≠ w.heap.size + 1 by omega)).trans HA.out.hi
              simp only [World.rangeLeft, e1, e2])
end Go.Proofs.Ythadaajgjloogaa.L

namespace Go.Proofs.Ythadaajgjloogaa.L
open Go.RowKit Go.Shelf Go.Proofs.YthadaajgjloogaaW.PrintWords Go.Proofs.YthadaajgjloogaaW.PrintLast Go.Proofs.YthadaajgjloogaaW.PrintMore
attribute [local go_sem] max2_int min2_int max_two min_two max_three min_three max_four min_four
attribute [local go_sem] Oper.semAt_some

/-! ### Work (14) -/
/-- The works after j calls. -/
def workAt (s c : List Int) : Nat → List Int → Int
  | 0 => distF s
  | j + 1 => aftF s.length (workAt s c j) (rd c j)
def workF (s c e : List Int) : Int := workAt s c c.length e
def workB (s c e : List Int) : Bool := hallB s c && posB e && decide (s.length = e.length)
theorem posB_sorted {s : List Int} (h : posB s = true) : s.Pairwise (· ≤ ·) := by
  obtain ⟨⟨h1, h3⟩, ha⟩ := (posB_iff s).1 h
  match s, h3, ha with
  | [], _, _ => simp
  | [a], _, _ => simp
  | [a, b], _, ha =>
    have := ha 1 (by simp)
    simp [okAt, rd] at this ⊢
    exact this.2.2
  | [a, b, c], _, ha =>
    have h1 := ha 1 (by simp)
    have h2 := ha 2 (by simp)
    simp [okAt, rd] at h1 h2 ⊢
    omega
  | _ :: _ :: _ :: _ :: _, h, _ => simp at h
theorem posB_allP {s : List Int} (h : posB s = true) : s ∈ allP s.length := allP_of_sorted (posB_pos h).1 (posB_sorted h)
theorem workAt_range {s c : List Int} (h1 : 1 ≤ s.length) (h3 : s.length ≤ 3) (hs : Pos s.length s) (hc : ∀ x ∈ c, 0 ≤ x ∧ x ≤ 30) : ∀ j, j ≤ c.length → ∀ p ∈ allP s.length, 0 ≤ workAt s c j p ∧ workAt s c j p ≤ 90 + 30 * j
  | 0, _, p, hp => by have := distF_range hs (allP_pos hp) h3; simp only [workAt]; omega
  | j + 1, h, p, hp => by
    have := aftF_range h1 (workAt_range h1 h3 hs hc j (by omega)) (hc (rd c j) (rd_mem (by omega))) hp
    simp only [workAt]; omega

set_option maxHeartbeats 4000000 in
theorem Work_no (A B E : Option Addr) (ca cb ce : Nat) (s c t : List Int) (w : World) (hr : Kd.C (Kd.int .i64) w A s.length s) (hq : Kd.C (Kd.int .i64) w B c.length c) (he : Kd.C (Kd.int .i64) w E t.length t) (hh : workB s c t = false) :
    Calls Try.prog 14 #[.slice A s.length ca, .slice B c.length cb, .slice E t.length ce] w fun e w' => e = .returned (.tuple #[.int .i64 0, .int .i64 2]) ∧ Below w.heap.size w w' := by
  have HN := Aside0.mk (newHall_calls A B ca cb s c w hr hq)
  have HQ := Aside0.mk he
  have l1 := Kd.C_max hr
  have l2 := Kd.C_max he
  obtain ⟨k, s0, A', n', c', eh⟩ : ∃ k s0 A' n' c', ansH s c (.slice B c.length cb) = .tuple #[.agg (hl k s0 (.slice A' n' c')), .bool (hallB s c)] := by
    cases h : hallB s c
    · exact ⟨_, _, _, _, _, ansH_no h⟩
    · exact ⟨_, _, _, _, _, ansH_yes h⟩
  obtain ⟨t0, et, _⟩ := ansP_form t
  have EH := Aside0.mk eh
  have ET := Aside0.mk et
  have key : ∀ (ub vb : Bool), hallB s c = ub → posB t = vb → (ub = true → vb = true → ((s.length : Int) != (t.length : Int)) = true) → Calls Try.prog 14 #[.slice A s.length ca, .slice B c.length cb, .slice E t.length ce] w fun e w' => e = .returned (.tuple #[.int .i64 0, .int .i64 2]) ∧ Below w.heap.size w w' := by
    intro ub vb hu hv hw
    rw [hu] at eh
    rw [hv] at et
    have EH := Aside0.mk eh
    have ET := Aside0.mk et
    clear hu hv eh et hh hr hq he
    cases ub
    · go_enter Try.func14, Try.ntmps14
      go_wp2_with (first
        | ((with_reducible refine HN.out.mono ?_); rintro e W ⟨rfl, hb⟩; rw [EH.out]; have HB := Aside0.mk (below_alloc hb (.cells (hl k s0 (.slice A' n' c')) 62)); have HBB := Aside0.mk (spotsOf_calls E ce t _ (Kd.C_below HQ.out HB.out)); clear hb HN)
        | ((with_reducible refine HBB.out.mono ?_); rintro e W2 ⟨rfl, hb⟩; rw [ET.out]; have HB2 := Aside0.mk hb; clear hb))
      go_ret2
      exact ⟨rfl, below_alloc (below_step HB.out HB2.out) _⟩
    · cases vb
      · go_enter Try.func14, Try.ntmps14
        go_wp2_with (first
          | ((with_reducible refine HN.out.mono ?_); rintro e W ⟨rfl, hb⟩; rw [EH.out]; have HB := Aside0.mk (below_alloc hb (.cells (hl k s0 (.slice A' n' c')) 62)); have HBB := Aside0.mk (spotsOf_calls E ce t _ (Kd.C_below HQ.out HB.out)); clear hb HN)
          | ((with_reducible refine HBB.out.mono ?_); rintro e W2 ⟨rfl, hb⟩; rw [ET.out]; have HB2 := Aside0.mk hb; clear hb))
        go_ret2
        exact ⟨rfl, below_alloc (below_step HB.out HB2.out) _⟩
      · have hw' := hw rfl rfl
        go_enter Try.func14, Try.ntmps14
        go_wp2_with (first
          | ((with_reducible refine HN.out.mono ?_); rintro e W ⟨rfl, hb⟩; rw [EH.out]; have HB := Aside0.mk (below_alloc hb (.cells (hl k s0 (.slice A' n' c')) 62)); have HBB := Aside0.mk (spotsOf_calls E ce t _ (Kd.C_below HQ.out HB.out)); clear hb HN)
          | ((with_reducible refine HBB.out.mono ?_); rintro e W2 ⟨rfl, hb⟩; rw [ET.out]; have HB2 := Aside0.mk hb; clear hb))
        go_ret2
        exact ⟨rfl, below_alloc (below_step HB.out HB2.out) _⟩
  refine key _ _ rfl rfl fun h1 h2 => ?_
  rw [bne_iff_ne]
  intro h3
  simp [workB, h1, h2] at hh
  omega

set_option maxHeartbeats 4000000 in
theorem Work_yes (A B E : Option Addr) (ca cb ce : Nat) (s c t : List Int) (w : World) (hr : Kd.C (Kd.int .i64) w A s.length s) (hq : Kd.C (Kd.int .i64) w B c.length c) (he : Kd.C (Kd.int .i64) w E t.length t) (hh : workB s c t = true) :
    Calls Try.prog 14 #[.slice A s.length ca, .slice B c.length cb, .slice E t.length ce] w fun e w' => e = .returned (.tuple #[.int .i64 (workF s c t), .int .i64 0]) ∧ Below w.heap.size w w' := by
  simp only [workB, Bool.and_eq_true, decide_eq_true_eq] at hh
  obtain ⟨⟨hh, hpt⟩, hl⟩ := hh
  have HN := Aside0.mk (newHall_calls A B ca cb s c w hr hq)
  have HQ := Aside0.mk he
  have HC := Aside0.mk hq
  have l1 := Kd.C_max hr
  have l2 := Kd.C_max he
  have l3 := Kd.C_max hq
  have EH := Aside0.mk (ansH_yes (s := s) (c := c) (cv := .slice B c.length cb) hh)
  have ET : Aside0 (ansP t = .tuple #[.agg #[.int .i64 (rd t 0), .int .i64 (rd t 1), .int .i64 (rd t 2)], .bool true]) := ⟨ansP_yes hpt⟩
  have HP := Aside0.mk (hallB_parts hh)
  have HT := Aside0.mk (posB_allP hpt)
  rw [← hl] at HT
  have hl2 : ((s.length : Int) != (t.length : Int)) = false := by rw [hl]; simp
  clear hr hq he hh hpt hl
  obtain ⟨⟨hpos, hk1, hk3⟩, h40, hcs⟩ := HP.out
  have HCS := Aside0.mk hcs
  clear hcs
  go_enter Try.func14, Try.ntmps14
  go_upto_region 5 with (first
    | ((with_reducible refine HN.out.mono ?_); rintro e W ⟨rfl, hb⟩; rw [EH.out]; have HB := Aside0.mk (below_alloc hb (.cells (hl s.length s (.slice B c.length cb)) 62)); have HBB := Aside0.mk (spotsOf_calls E ce t _ (Kd.C_below HQ.out HB.out)); clear hb HN)
    | ((with_reducible refine HBB.out.mono ?_); rintro e W2 ⟨rfl, hb⟩; rw [ET.out]; have HB2 := Aside0.mk hb; clear hb))
  refine wpc_world (fun V => Aside0 (V.heap[W.heap.size]? = some (.cells (hl s.length s (.slice B c.length cb)) 62 (0, 0))) ∧ Aside0 (V.heap[W2.heap.size]? = some (.cells (sp t) 60 (0, 0))) ∧ Aside0 (Below w.heap.size w V) ∧ Aside0 (W.heap.size < W2.heap.size ∧ W2.heap.size < V.heap.size))
    ⟨⟨alo ((HB2.out.block _ (by simp)).trans (aln _ _)) _⟩, ⟨aln _ _⟩, ⟨below_alloc (below_step HB.out HB2.out) _⟩, ⟨by have := HB2.out.size; simp at this ⊢; omega⟩⟩ ?_
  clear HB HB2
  rintro V ⟨H8, H10, HB, HZ⟩
  obtain ⟨⟨c0, c1, c2, c3, c4⟩, _⟩ := hl_read H8.out
  go_upto_region 6 with (go_at_call 49; refine (first_calls s.length s _ V hk3 hpos).mono ?_; rintro e V2 ⟨rfl, hm, hb⟩; have HM := Aside0.mk (first_MapF hk3 s hm); have HB2 := Aside0.mk hb; clear hm hb)
  refine wpc_world (fun U => Aside0 (MapF U (V.heap.size + 1) s.length (workAt s c 0)) ∧ Aside0 (U.heap[W.heap.size]? = some (.cells (hl s.length s (.slice B c.length cb)) 62 (0, 0))) ∧ Aside0 (U.heap[W2.heap.size]? = some (.cells (sp t) 60 (0, 0))) ∧ Aside0 (Below w.heap.size w U)) ⟨HM, ⟨(HB2.out.block _ (by have := HZ.out; omega)).trans H8.out⟩, ⟨(HB2.out.block _ (by have := HZ.out; omega)).trans H10.out⟩, ⟨below_step HB.out HB2.out⟩⟩ ?_
  clear HM HB2 H8 H10 HB c0 c1 c2 c3 c4
  rintro U ⟨HM, H8, H10, HB⟩
  go_wp2
  go_loopw [12, 14, 43] (fun v12 _ v43 wr => ∃ (j mb : Nat), j ≤ c.length ∧ v43 = .int .i64 j ∧ v12 = .map (some mb) ∧ Aside0 (MapF wr mb s.length (workAt s c j)) ∧ Aside0 (wr.heap[W.heap.size]? = some (.cells (hl s.length s (.slice B c.length cb)) 62 (0, 0))) ∧ Aside0 (wr.heap[W2.heap.size]? = some (.cells (sp t) 60 (0, 0))) ∧ Aside0 (Below w.heap.size w wr)) (fun _ _ v43 _ => c.length - (intOf v43).toNat)
  case atStart => exact ⟨0, _, Nat.zero_le _, rfl, rfl, HM, H8, H10, HB⟩
  case round =>
    clear HM H8 H10 HB
    obtain ⟨j, mb, hj, rfl, rfl, HM, H8, H10, HB⟩ := hrel
    obtain ⟨⟨c0, c1, c2, c3, c4⟩, _⟩ := hl_read H8.out
    by_cases hlt : j < c.length
    · have HC1 := Kd.C_below HC.out HB.out
      obtain ⟨ad, rfl, hx⟩ := Kd.at_int HC1 (j : Int) (by omega) (by omega)
      rw [Int.toNat_natCast] at hx
      clear HC1
      have HX := Aside0.mk (HCS.out (rd c j) (rd_mem hlt))
      have HR := Aside0.mk (workAt_range hk1 hk3 hpos HCS.out j hj)
      go_wp2_with (go_at_call 50; refine (after_calls s.length s _ mb (workAt s c j) (90 + 30 * (j : Int)) (rd c j) _ hk1 hk3 HX.out HM.out HR.out (by omega)).mono ?_; rintro e V2 ⟨rfl, hm, hb⟩; have HM2 : Aside0 (MapF V2 (wr.heap.size + 1) s.length (workAt s c (j + 1))) := ⟨hm⟩; have HB2 := Aside0.mk hb; clear hm hb)
      go_roundw
      case rel => exact ⟨j + 1, _, by omega, by go_num, rfl, HM2, ⟨(HB2.out.block _ (blk_lt H8.out)).trans H8.out⟩, ⟨(HB2.out.block _ (blk_lt H10.out)).trans H10.out⟩, ⟨below_step HB.out HB2.out⟩⟩
      case measure => simp [intOf]; omega
    · obtain rfl : j = c.length := by omega
      obtain ⟨r0, r1, r2, _, _, _⟩ := sp_read H10.out
      obtain ⟨l, hl1, _, hl2⟩ := HM.out
      have hlk : (Instr.lookup 68 (.map (some mb)) (.agg #[.int .i64 (rd t 0), .int .i64 (rd t 1), .int .i64 (rd t 2)]) false).run Try.prog wr = .ok (.int .i64 (workF s c t)) wr := by
        have h := lookup_run l _ mb t wr hl1
        rw [hl2 _ HT.out] at h
        exact h
      clear hl1 hl2
      go_wp2
      go_ret2
      exact ⟨rfl, HB.out⟩
end Go.Proofs.Ythadaajgjloogaa.L

namespace Go.Proofs.Ythadaajgjloogaa.L
open Go.RowKit Go.Shelf Go.Proofs.YthadaajgjloogaaW.PrintWords Go.Proofs.YthadaajgjloogaaW.PrintLast Go.Proofs.YthadaajgjloogaaW.PrintMore
attribute [local go_sem] max2_int min2_int max_two min_two max_three min_three max_four min_four
attribute [local go_sem] Oper.semAt_some

/-! ### the closures of best (90, 91) and Foresee (62) -/
set_option maxHeartbeats 1000000 in
theorem zero_calls (p : List Int) (w : World) : Calls Try.prog 90 #[.agg (sp p)] w fun e w' => e = .returned (.int .i64 0) ∧ Below w.heap.size w w' := by
  rw [spv p]
  go_enter Try.func90, Try.ntmps90
  go_wp2
  go_ret
  exact ⟨rfl, below_alloc (Below.refl _ _) _⟩
set_option maxHeartbeats 1000000 in
theorem from_calls (hb gb k : Nat) (s0 : List Int) (cv : Value) (s p : List Int) (w : World) (hh : w.heap[hb]? = some (.cells (hl k s0 cv) 62 (0, 0))) (hg : w.heap[gb]? = some (.cells (sp s) 60 (0, 0))) (hk3 : k ≤ 3) (hs : Pos k s) (hp : Pos k p) :
    Calls Try.prog 91 #[.agg (sp p), .pointer (some ⟨hb, 0, none⟩), .pointer (some ⟨gb, 0, none⟩)] w fun e w' => e = .returned (.int .i64 (distF s p)) ∧ Below w.heap.size w w' := by
  have HD : Aside0 (sumI (dl s p k) = distF s p) := ⟨by unfold distF; rw [hs.len]⟩
  have HH := Aside0.mk hh
  have HG := Aside0.mk hg
  clear hh hg
  rw [spv p]
  go_enter Try.func91, Try.ntmps91
  go_upto_region 1 with (fail)
  refine wpc_world (fun W => Aside0 (W.heap[hb]? = some (.cells (hl k s0 cv) 62 (0, 0))) ∧ Aside0 (W.heap[gb]? = some (.cells (sp s) 60 (0, 0))) ∧ Aside0 (W.heap[w.heap.size]? = some (.cells (sp p) 60 (0, 0))) ∧ Aside0 (Below w.heap.size w W)) ⟨⟨alo HH.out _⟩, ⟨alo HG.out _⟩, ⟨aln _ _⟩, ⟨below_alloc (Below.refl _ _) _⟩⟩ ?_
  clear HH HG
  rintro W ⟨HH, HG, HX, HB⟩
  obtain ⟨⟨c0, c1, c2, c3, c4⟩, _⟩ := hl_read HH.out
  obtain ⟨r0, r1, r2, _, _, _⟩ := sp_read HG.out
  obtain ⟨t0, t1, t2, _, _, _⟩ := sp_read HX.out
  go_wp2_with (go_at_call 54; refine (distance_calls k s0 cv s p _ hk3 hs.fl hp.fl).mono ?_; rintro e W2 ⟨rfl, hb⟩; rw [HD.out]; have HB2 := Aside0.mk hb; clear hb)
  go_ret
  exact ⟨rfl, below_step HB.out HB2.out⟩
set_option maxHeartbeats 1000000 in
theorem from2_calls (hb gb k : Nat) (s0 : List Int) (cv : Value) (s p : List Int) (w : World) (hh : w.heap[hb]? = some (.cells (hl k s0 cv) 62 (0, 0))) (hg : w.heap[gb]? = some (.cells (sp s) 60 (0, 0))) (hk3 : k ≤ 3) (hs : Pos k s) (hp : Pos k p) :
    Calls Try.prog 62 #[.agg (sp p), .pointer (some ⟨hb, 0, none⟩), .pointer (some ⟨gb, 0, none⟩)] w fun e w' => e = .returned (.int .i64 (distF s p)) ∧ Below w.heap.size w w' := by
  have HD : Aside0 (sumI (dl s p k) = distF s p) := ⟨by unfold distF; rw [hs.len]⟩
  have HH := Aside0.mk hh
  have HG := Aside0.mk hg
  clear hh hg
  rw [spv p]
  go_enter Try.func62, Try.ntmps62
  go_upto_region 1 with (fail)
  refine wpc_world (fun W => Aside0 (W.heap[hb]? = some (.cells (hl k s0 cv) 62 (0, 0))) ∧ Aside0 (W.heap[gb]? = some (.cells (sp s) 60 (0, 0))) ∧ Aside0 (W.heap[w.heap.size]? = some (.cells (sp p) 60 (0, 0))) ∧ Aside0 (Below w.heap.size w W)) ⟨⟨alo HH.out _⟩, ⟨alo HG.out _⟩, ⟨aln _ _⟩, ⟨below_alloc (Below.refl _ _) _⟩⟩ ?_
  clear HH HG
  rintro W ⟨HH, HG, HX, HB⟩
  obtain ⟨⟨c0, c1, c2, c3, c4⟩, _⟩ := hl_read HH.out
  obtain ⟨r0, r1, r2, _, _, _⟩ := sp_read HG.out
  obtain ⟨t0, t1, t2, _, _, _⟩ := sp_read HX.out
  go_wp2_with (go_at_call 54; refine (distance_calls k s0 cv s p _ hk3 hs.fl hp.fl).mono ?_; rintro e W2 ⟨rfl, hb⟩; rw [HD.out]; have HB2 := Aside0.mk hb; clear hb)
  go_ret
  exact ⟨rfl, below_step HB.out HB2.out⟩

/-! ### what chF finds -/
/-- (b, m) is the first least of l's positions with x, or none. -/
theorem chF_spec (f : List Int → Int) (x : Int) : ∀ (l : List (List Int)), (∀ p ∈ l, 0 ≤ f p) → ((chF f x l).2 = -1 ∧ (∀ p ∈ l, x ∉ p)) ∨ ((chF f x l).1 ∈ l ∧ x ∈ (chF f x l).1 ∧ (chF f x l).2 = f (chF f x l).1 ∧ ∀ p ∈ l, x ∈ p → f (chF f x l).1 ≤ f p) := by
  intro l
  rw [← List.reverse_reverse l]
  generalize l.reverse = r
  induction r with
  | nil => intro _; left; simp [chF]
  | cons p r ih =>
    simp only [List.reverse_cons]
    generalize r.reverse = l at *
    intro h0
    have ih := ih (fun q hq => h0 q (by simp [hq]))
    have hp0 := h0 p (by simp)
    rw [chF_snoc]
    unfold chStep
    by_cases hx : x ∈ p
    · rw [if_pos hx]
      rcases ih with ⟨h1, h2⟩ | ⟨h1, h2, h3, h4⟩
      · rw [if_pos (Or.inl (by omega))]
        right
        refine ⟨by simp, hx, rfl, fun q hq hxq => ?_⟩
        rcases List.mem_append.1 hq with h | h
        · exact absurd hxq (h2 q h)
        · simp at h; subst h; exact Int.le_refl _
      · have hb0 := h0 _ (List.mem_append_left [p] h1)
        by_cases hlt : f p < (chF f x l).2
        · rw [if_pos (Or.inr hlt)]
          right
          refine ⟨by simp, hx, rfl, fun q hq hxq => ?_⟩
          rcases List.mem_append.1 hq with h | h
          · have := h4 q h hxq
            show f p ≤ f q
            omega
          · simp at h; subst h; exact Int.le_refl _
        · rw [if_neg (by omega)]
          right
          refine ⟨by simp [h1], h2, h3, fun q hq hxq => ?_⟩
          rcases List.mem_append.1 hq with h | h
          · exact h4 q h hxq
          · simp at h; subst h; omega
    · rw [if_neg hx]
      rcases ih with ⟨h1, h2⟩ | ⟨h1, h2, h3, h4⟩
      · left
        refine ⟨h1, fun q hq => ?_⟩
        rcases List.mem_append.1 hq with h | h
        · exact h2 q h
        · simp at h; subst h; exact hx
      · right
        refine ⟨by simp [h1], h2, h3, fun q hq hxq => ?_⟩
        rcases List.mem_append.1 hq with h | h
        · exact h4 q h hxq
        · simp at h; subst h; exact absurd hxq hx
theorem pos_with {k : Nat} (hk : 1 ≤ k) {x : Int} (hx : 0 ≤ x ∧ x ≤ 30) : ∃ p ∈ allP k, x ∈ p := by
  refine ⟨List.replicate k x, allP_of_sorted ⟨by simp, fun y hy => by rw [(List.mem_replicate.1 hy).2]; exact hx⟩ (by rw [List.pairwise_replicate]; right; omega), List.mem_replicate.2 ⟨by omega, rfl⟩⟩
theorem chF_found {k : Nat} (hk : 1 ≤ k) {x : Int} (hx : 0 ≤ x ∧ x ≤ 30) {f : List Int → Int} (hf : ∀ p ∈ allP k, 0 ≤ f p) : (chF f x (allP k)).1 ∈ allP k ∧ x ∈ (chF f x (allP k)).1 ∧ (chF f x (allP k)).2 = f (chF f x (allP k)).1 ∧ ∀ p ∈ allP k, x ∈ p → f (chF f x (allP k)).1 ≤ f p := by
  rcases chF_spec f x (allP k) hf with ⟨_, h⟩ | h
  · obtain ⟨p, hp, hxp⟩ := pos_with hk hx
    exact absurd hxp (h p hp)
  · exact h

/-! ### the best schedule, from the end -/
/-- What is added to the work: nothing at the end, else the distance from the next positions. -/
def frm (s c : List Int) : Nat → List Int → Int
  | 0 => fun _ => 0
  | j + 1 => distF (chF (fun p => workAt s c (c.length - j) p + frm s c j p) (rd c ((c.length - 1 - j : Nat) : Int)) (allP s.length)).1
def bps (s c : List Int) (j : Nat) : List Int := (chF (fun p => workAt s c (c.length - j) p + frm s c j p) (rd c ((c.length - 1 - j : Nat) : Int)) (allP s.length)).1
theorem frm_succ (s c : List Int) (j : Nat) : frm s c (j + 1) = distF (bps s c j) := rfl
/-- Rows filled from the end, j of them. -/
def outJ (s c : List Int) (j : Nat) : List (List Int) := (List.range c.length).map fun i => if i < c.length - j then [] else bps s c (c.length - 1 - i)
def bestL (s c : List Int) : List (List Int) := outJ s c c.length
theorem outJ_zero (s c : List Int) : outJ s c 0 = List.replicate c.length [] := by
  apply List.ext_getElem
  · simp [outJ]
  · intro i h1 h2
    simp [outJ] at h1 ⊢
    omega
theorem outJ_succ (s c : List Int) (j : Nat) (hj : j < c.length) : (outJ s c j).set (c.length - 1 - j) (bps s c j) = outJ s c (j + 1) := by
  apply List.ext_getElem
  · simp [outJ]
  · intro i h1 h2
    simp [outJ] at h1 h2
    rw [List.getElem_set]
    simp only [outJ, List.getElem_map, List.getElem_range]
    by_cases hi : c.length - 1 - j = i
    · subst hi
      rw [if_pos rfl, if_neg (by omega), show c.length - 1 - (c.length - 1 - j) = j by omega]
    · rw [if_neg hi]
      by_cases h3 : i < c.length - j
      · rw [if_pos h3, if_pos (by omega)]
      · rw [if_neg h3, if_neg (by omega)]
theorem frm_range {s c : List Int} (h1 : 1 ≤ s.length) (h3 : s.length ≤ 3) (hs : Pos s.length s) (hc : ∀ x ∈ c, 0 ≤ x ∧ x ≤ 30) (h40 : c.length ≤ 40) : ∀ j, j ≤ c.length → ∀ p ∈ allP s.length, 0 ≤ frm s c j p ∧ frm s c j p ≤ 90
  | 0, _, p, _ => by simp [frm]
  | j + 1, hj, p, hp => by
    have ih := frm_range h1 h3 hs hc h40 j (by omega)
    have hw := workAt_range h1 h3 hs hc (c.length - j) (by omega)
    have h := chF_found h1 (x := rd c ((c.length - 1 - j : Nat) : Int)) (hc _ (rd_mem (by omega))) (f := fun p => workAt s c (c.length - j) p + frm s c j p) (fun p hp => by have := ih p hp; have := hw p hp; omega)
    rw [frm_succ]
    exact distF_range (allP_pos h.1) (allP_pos hp) h3
theorem bps_spec {s c : List Int} (h1 : 1 ≤ s.length) (h3 : s.length ≤ 3) (hs : Pos s.length s) (hc : ∀ x ∈ c, 0 ≤ x ∧ x ≤ 30) (h40 : c.length ≤ 40) {j : Nat} (hj : j < c.length) :
    bps s c j ∈ allP s.length ∧ rd c ((c.length - 1 - j : Nat) : Int) ∈ bps s c j ∧ ∀ p ∈ allP s.length, rd c ((c.length - 1 - j : Nat) : Int) ∈ p → workAt s c (c.length - j) (bps s c j) + frm s c j (bps s c j) ≤ workAt s c (c.length - j) p + frm s c j p := by
  have ih := frm_range h1 h3 hs hc h40 j (by omega)
  have hw := workAt_range h1 h3 hs hc (c.length - j) (by omega)
  have h := chF_found h1 (x := rd c ((c.length - 1 - j : Nat) : Int)) (hc _ (rd_mem (by omega))) (f := fun p => workAt s c (c.length - j) p + frm s c j p) (fun p hp => by have := ih p hp; have := hw p hp; omega)
  exact ⟨h.1, h.2.1, h.2.2.2⟩
end Go.Proofs.Ythadaajgjloogaa.L

namespace Go.Proofs.Ythadaajgjloogaa.L
open Go.RowKit Go.Shelf Go.Proofs.YthadaajgjloogaaW.PrintWords Go.Proofs.YthadaajgjloogaaW.PrintLast Go.Proofs.YthadaajgjloogaaW.PrintMore
attribute [local go_sem] max2_int min2_int max_two min_two max_three min_three max_four min_four
attribute [local go_sem] Oper.semAt_some

abbrev mpK : Kd Nat := Kd.scalar (fun b => Value.map (some b)) (fun _ => rfl)
theorem info68 : (Try.prog.info? 68).map (fun i => (i.zero, i.size, i.bytes)) = some (some (.map none), 1, 8) := by kernel_rfl

structure Bw (w W : World) (k : Nat) (s0 : List Int) (cv : Value) (fs : Nat → List Int → Int) (v3 : Value) (bs : List Nat) : Prop where
  h1 : W.heap[w.heap.size]? = some (.cells (hl k s0 cv) 62 (0, 0))
  hR : mpK.R 68 W (w.heap.size + 1) (fun x => w.heap.size + 1 ≤ x) v3 bs
  hM : ∀ i, i < bs.length → MapF W (bs.getD i 0) k (fs i)
  hb : Below w.heap.size w W
theorem Bw.below {w W W2 : World} {k : Nat} {s0 : List Int} {cv : Value} {fs : Nat → List Int → Int} {v3 : Value} {bs : List Nat} (h : Bw w W k s0 cv fs v3 bs) (hb : Below W.heap.size W W2) : Bw w W2 k s0 cv fs v3 bs :=
  ⟨(hb.block _ (blk_lt h.h1)).trans h.h1, Kd.R_below h.hR hb, fun i hi => (h.hM i hi).below (h.hM i hi).lt hb, h.hb.trans (hb.mono h.hb.size)⟩

theorem MapF.grown {W W2 : World} {mb k : Nat} {f : List Int → Int} {row : Option Nat} (h : MapF W mb k f) (hg : W.grownBy W2 row) (hne : ∀ q, row = some q → ∃ cells t, W.heap[q]? = some (.cells cells t (0, 0))) : MapF W2 mb k f := by
  obtain ⟨l, h1, h2⟩ := h
  refine ⟨l, (hg.block _ (blk_lt h1) fun e => ?_).trans h1, h2⟩
  obtain ⟨cells, t, hc⟩ := hne _ e.symm
  rw [h1] at hc
  cases hc
theorem Bw.more {w W W2 : World} {k : Nat} {s0 : List Int} {cv : Value} {fs : Nat → List Int → Int} {v3 v1 : Value} {bs : List Nat} {nb : Nat} (h : Bw w W k s0 cv fs v3 bs) (hm : MapF W nb k (fs bs.length)) (hR : mpK.R 68 W2 (w.heap.size + 1) (fun x => w.heap.size + 1 ≤ x) v1 (bs ++ [nb])) (hB : Below (w.heap.size + 1) W W2) (hg : W.grownBy W2 v3.ownBlock) : Bw w W2 k s0 cv fs v1 (bs ++ [nb]) := by
  have hty : ∀ q, v3.ownBlock = some q → ∃ cells t, W.heap[q]? = some (.cells cells t (0, 0)) := fun q hq => by
    obtain ⟨cells, hc⟩ := Kd.R_typed h.hR q hq
    exact ⟨cells, _, hc⟩
  refine ⟨(hB.block _ (by omega)).trans h.h1, hR, fun i hi => ?_, h.hb.trans (hB.mono (by omega))⟩
  rw [List.length_append, List.length_singleton] at hi
  by_cases hlt : i < bs.length
  · rw [show (bs ++ [nb]).getD i 0 = bs.getD i 0 by rw [List.getD_eq_getElem?_getD, List.getD_eq_getElem?_getD, List.getElem?_append_left hlt]]
    exact (h.hM i hlt).grown hg hty
  · obtain rfl : i = bs.length := by omega
    rw [show (bs ++ [nb]).getD bs.length 0 = nb by simp [List.getD]]
    exact hm.grown hg hty

theorem Bw.over {w W W2 : World} {k : Nat} {s0 : List Int} {cv : Value} {fs : Nat → List Int → Int} {v3 : Value} {bs : List Nat} {D g6 : Nat} (h : Bw w W k s0 cv fs v3 bs) (hD : w.heap.size + 1 ≤ D) (hB : Below D W W2) (hg : W.grownBy W2 (some g6)) (hty : ∃ cells, W.heap[g6]? = some (.cells cells 22 (0, 0))) : Bw w W2 k s0 cv fs v3 bs := by
  obtain ⟨cells, hc⟩ := hty
  refine ⟨(hB.block _ (by omega)).trans h.h1, ?_, fun i hi => (h.hM i hi).grown hg fun q hq => ?_, h.hb.trans (hB.mono (by omega))⟩
  · refine Kd.R_over' (v := .slice (some ⟨g6, 0, none⟩) 1 1) (e' := 22) h.hR (fun q hq => ?_) (fun q hq => ?_) (by rw [show (Value.slice (some ⟨g6, 0, none⟩) 1 1).ownBlock = some g6 from by simp [Value.ownBlock]]; exact hg)
    · have : g6 = q := by simpa [Value.ownBlock] using hq
      exact ⟨cells, this ▸ hc⟩
    · have : q = 68 := by simpa [mpK, Kd.scalar] using hq
      omega
  · have : g6 = q := by simpa using hq
    exact ⟨cells, 22, this ▸ hc⟩
theorem outJ_len (s c : List Int) (j : Nat) : (outJ s c j).length = c.length := by simp [outJ]

/-- g with these captured values tells the numbers fr, whatever is made meanwhile. -/
def FrOk (W : World) (k g : Nat) (caps : Array Value) (fr : List Int → Int) : Prop :=
  (∀ (args : Array Value) (W' : World), (callFunc g args).run Try.prog W' = .ok (.enter g args) W') ∧
    ∀ p ∈ allP k, ∀ W2, Below W.heap.size W W2 → Calls Try.prog g (#[.agg (sp p)] ++ caps) W2 fun e W' => e = .returned (.int .i64 (fr p)) ∧ Below W2.heap.size W2 W'
theorem FrOk.below {W W2 : World} {k g : Nat} {caps : Array Value} {fr : List Int → Int} (h : FrOk W k g caps fr) (hb : Below W.heap.size W W2) : FrOk W2 k g caps fr :=
  ⟨h.1, fun p hp W3 h3 => h.2 p hp W3 (below_step hb h3)⟩
theorem zero_fr (W : World) (k : Nat) : FrOk W k 90 #[] (fun _ => 0) := ⟨enter_fn 90 Try.func90 rfl rfl, fun p _ W2 _ => zero_calls p W2⟩
theorem from_fr {W : World} {k hb gb : Nat} {s0 : List Int} {cv : Value} {s : List Int} (hh : W.heap[hb]? = some (.cells (hl k s0 cv) 62 (0, 0))) (hg : W.heap[gb]? = some (.cells (sp s) 60 (0, 0))) (hk3 : k ≤ 3) (hs : Pos k s) :
    FrOk W k 91 #[.pointer (some ⟨hb, 0, none⟩), .pointer (some ⟨gb, 0, none⟩)] (distF s) :=
  ⟨enter_fn 91 Try.func91 rfl rfl, fun p hp W2 h2 => from_calls hb gb k s0 cv s p W2 ((h2.block _ (blk_lt hh)).trans hh) ((h2.block _ (blk_lt hg)).trans hg) hk3 hs (allP_pos hp)⟩

set_option maxRecDepth 100000 in
set_option maxHeartbeats 8000000 in
theorem best_calls (s c : List Int) (B : Option Addr) (cb : Nat) (w : World) (hh : hallB s c = true) (hq : Kd.C (Kd.int .i64) w B c.length c) :
    Calls Try.prog 59 #[.agg (hl s.length s (.slice B c.length cb))] w fun e w' => ∃ v, e = .returned v ∧ Rows w' w.heap.size v (bestL s c) ∧ Below w.heap.size w w' := by
  have HP := Aside0.mk (hallB_parts hh)
  have HQ := Aside0.mk hq
  clear hh hq
  obtain ⟨⟨hpos, hk1, hk3⟩, h40, hcs⟩ := HP.out
  have HCS := Aside0.mk hcs
  clear hcs
  go_enter Try.func59, Try.ntmps59
  go_upto_region 2 with (go_at_call 49; refine (first_calls s.length s _ _ hk3 hpos).mono ?_; rintro e V2 ⟨rfl, hm, hb⟩; have HM : Aside0 (MapF V2 (w.heap.size + 1 + 1) s.length (distF s)) := ⟨by have := first_MapF hk3 s hm; simpa using this⟩; have HB2 := Aside0.mk hb; clear hm hb)
  refine wpc_world (fun W => Aside0 (Bw w W s.length s (.slice B c.length cb) (workAt s c) (.slice (some ⟨V2.heap.size, 0, none⟩) 1 1) [w.heap.size + 1 + 1])) ⟨⟨?_, ?_, ?_, ?_⟩⟩ ?_
  · exact alo ((HB2.out.block _ (by simp)).trans (aln _ _)) _
  · have hsz : w.heap.size + 1 ≤ V2.heap.size := by have := HB2.out.size; simpa using this
    refine Kd.R_of_own (xs := [w.heap.size + 1 + 1]) (show World.ownsRow _ _ _ _ _ 1 [Value.map (some (w.heap.size + 1 + 1))] from World.ownsRow_lit (base := w.heap.size + 1) (e := 68) (size := 1) V2 #[.map (some (w.heap.size + 1 + 1))] 1 hsz (by decide) rfl) ?_
    intro q hq
    have : V2.heap.size = q := by simpa [Value.ownBlock] using hq
    omega
  · intro i hi
    have : i = 0 := by simpa using hi
    subst this
    exact HM.out.below HM.out.lt (below_alloc (Below.refl _ _) _)
  · exact below_alloc (below_step (below_alloc (Below.refl _ _) _) HB2.out) _
  clear HM HB2
  rintro W HW
  obtain ⟨⟨c0, c1, c2, c3, c4⟩, _⟩ := hl_read HW.out.h1
  have l3 := Kd.C_max HQ.out
  go_wp2
  go_loopw [3, 4, 5, 16] (fun v3 _ _ v16 wr => ∃ (j : Nat) (bs : List Nat), j ≤ c.length ∧ bs.length = j + 1 ∧ v16 = .int .i64 j ∧ Aside0 (Bw w wr s.length s (.slice B c.length cb) (workAt s c) v3 bs)) (fun _ _ _ v16 _ => c.length - (intOf v16).toNat)
  case atStart => exact ⟨0, _, Nat.zero_le _, rfl, rfl, HW⟩
  case round =>
    clear HW c0 c1 c2 c3 c4
    obtain ⟨j, bs, hj, hbs, rfl, HW⟩ := hrel
    obtain ⟨⟨c0, c1, c2, c3, c4⟩, _⟩ := hl_read HW.out.h1
    by_cases hlt : j < c.length
    · have HC1 := Kd.C_below HQ.out HW.out.hb
      obtain ⟨ad, rfl, hx⟩ := Kd.at_int HC1 (j : Int) (by omega) (by omega)
      rw [Int.toNat_natCast] at hx
      clear HC1
      have HX := Aside0.mk (HCS.out (rd c j) (rd_mem hlt))
      have HR := Aside0.mk (workAt_range hk1 hk3 hpos HCS.out j hj)
      obtain ⟨A3, c3', rfl, hcap, hC3⟩ := Kd.R_reads HW.out.hR
      obtain ⟨a3, rfl, hy⟩ := ReadsOf.at_ (Kd.reads_of_C (enc := fun b : Nat => Value.map (some b)) (d := (0 : Nat)) (h1 := fun _ => rfl) hC3) (j : Int) (by omega) (by omega)
      rw [Int.toNat_natCast] at hy
      rw [show rdOf 0 bs (j : Int) = bs.getD j 0 from by simp [rdOf]] at hy
      have HMJ := Aside0.mk (HW.out.hM j (by omega))
      have HY := Aside0.mk hy
      have HMJ := Aside0.mk (HMJ.out.below HMJ.out.lt (below_drew1 (Below.refl wr.heap.size wr)))
      generalize bs.getD j 0 = mb at *
      clear hC3
      rw [hbs] at HW ⊢
      have HBS := Aside0.mk hbs
      have hj1 : (j : Int) < ((j + 1 : Nat) : Int) := by omega
      go_upto_region 5 with (fail)
      refine wp_region_held_drew (S := (fun U => U.cell? ⟨w.heap.size, 0, none⟩ = some (.int .i64 s.length) ∧ U.cell? ⟨w.heap.size, 1, none⟩ = some (.int .i64 (rd s 0)) ∧ U.cell? ⟨w.heap.size, 2, none⟩ = some (.int .i64 (rd s 1)) ∧ U.cell? ⟨w.heap.size, 3, none⟩ = some (.int .i64 (rd s 2)) ∧ U.cell? ⟨w.heap.size, 4, none⟩ = some (.slice (some ad) c.length cb))) (by kernel_rfl) (by go_keep) (fun hHeld => ?_)
      refine wpAnyH_take (i := 0) (v := .slice (some a3) (j + 1) c3') rfl (by kernel_rfl) (by kernel_rfl) (by kernel_rfl) (fun _ _ _ h => h) (Or.inl ⟨by rfl, ?_⟩) hHeld ?_
      · rintro U ⟨u0, u1, u2, u3, u4⟩
        go_simp
      refine wpAnyH_take (i := 1) (v := .agg #[.int .i64 s.length, .int .i64 (rd s 0), .int .i64 (rd s 1), .int .i64 (rd s 2), .slice (some ad) c.length cb]) rfl (by kernel_rfl) (by kernel_rfl) (by kernel_rfl) (fun _ _ _ h => h) (Or.inl ⟨by rfl, ?_⟩) hHeld ?_
      · rintro U ⟨u0, u1, u2, u3, u4⟩
        go_simp
      refine wpAnyH_take (i := 2) (v := .slice (some a3) (j + 1) c3') rfl (by kernel_rfl) (by kernel_rfl) (by kernel_rfl) (fun _ _ _ h => h) (Or.inl ⟨by rfl, ?_⟩) hHeld ?_
      · rintro U ⟨u0, u1, u2, u3, u4⟩
        go_simp
      refine wpAnyH_take (i := 3) (v := .int .i64 j) rfl (by kernel_rfl) (by kernel_rfl) (by kernel_rfl) (fun _ _ _ h => h) (Or.inl ⟨by rfl, ?_⟩) hHeld ?_
      · rintro U ⟨u0, u1, u2, u3, u4⟩
        go_simp
      refine wpAnyH_take (i := 6) (v := .int .i64 (rd c j)) rfl (by kernel_rfl) (by kernel_rfl) (by kernel_rfl) (fun _ _ _ h => h) (Or.inl ⟨by rfl, ?_⟩) hHeld ?_
      · rintro U ⟨u0, u1, u2, u3, u4⟩
        go_simp
      refine wpAnyH_ready (rs := [4]) (by kernel_rfl) (by simp) ?_
      refine AllReadyH.cons rfl (fun K hK => ?_) AllReadyH.nil
      go_simp
      go_wp2
      refine hK.out _ _ hHeld (fun hHeld => ?_)
      clear hK K
      refine wpAnyH_ready (rs := [5]) (by kernel_rfl) (by simp) ?_
      refine AllReadyH.cons rfl (fun K hK => ?_) AllReadyH.nil
      go_simp
      refine hK.out _ _ hHeld (fun hHeld => ?_)
      clear hK K
      refine wpAnyH_ready (rs := [7]) (by kernel_rfl) (by simp) ?_
      refine AllReadyH.cons rfl (fun K hK => ?_) AllReadyH.nil
      go_simp
      refine (after_calls s.length s _ mb (workAt s c j) (90 + 30 * (j : Int)) (rd c j) _ hk1 hk3 HX.out HMJ.out HR.out (by omega)).mono ?_
      rintro e V3 ⟨rfl, hm0, hb0⟩
      have HM3 : Aside0 (MapF V3 (wr.heap.size + 1) s.length (workAt s c (j + 1))) := ⟨hm0⟩
      have HB3 : Aside0 (Below wr.heap.size wr V3) := ⟨below_step (below_drew1 (Below.refl _ _)) hb0⟩
      clear hm0 hb0
      have HW3 := Aside0.mk (HW.out.below HB3.out)
      have h5 := (hl_read HW3.out.h1).1
      refine hK.out _ _ h5 (fun hHeld => ?_)
      clear hK K h5
      refine wpAnyH_ready (rs := [8]) (by kernel_rfl) (by simp) ?_
      refine AllReadyH.cons rfl (fun K hK => ?_) AllReadyH.nil
      go_simp
      refine hK.out _ _ (hl_read (alo HW3.out.h1 _)).1 (fun hHeld => ?_)
      clear hK K
      refine wpAnyH_ready (rs := [9]) (by kernel_rfl) (by simp) ?_
      refine AllReadyH.cons rfl (fun K hK => ?_) AllReadyH.nil
      refine Kd.R_append_step mpK (w0 := V3) (W := V3) (w.heap.size + 1) (by rfl) (.tmp 21) (.tmp 29) 109 68 (.map none) 8 (by rfl) Try.underlying109 info68 (by rfl) (by decide) (by omega) (.slice (some a3) (j + 1) c3') bs (wr.heap.size + 1) [.map (some (wr.heap.size + 1))] (fun x => w.heap.size + 1 ≤ x) (fun _ => False) (by rfl) (by rfl) (by rfl) (fun _ h => h.elim) (fun q hq => by have := blk_lt HW3.out.h1; omega) HW3.out.hR (Below.refl _ _) (blk_lt HW3.out.h1) (by rw [HBS.out]; omega) ?_
      intro v1 w1 hR1 hB1 hg1 hat1
      have HW4 := Aside0.mk (HW3.out.more (by rw [HBS.out]; exact HM3.out) hR1 hB1 hg1)
      clear hR1 hB1 hg1 hat1
      refine hK.out _ _ (hl_read HW4.out.h1).1 (fun hHeld => ?_)
      clear hK K
      refine wpAnyH_ready (rs := [10]) (by kernel_rfl) (by simp) ?_
      refine AllReadyH.cons rfl (fun K hK => ?_) AllReadyH.nil
      go_simp
      refine hK.out _ _ hHeld (fun hHeld => ?_)
      clear hK K
      refine wpAnyH_done (by kernel_rfl) ?_ _
      clear hHeld
      clear c0 c1 c2 c3 c4
      go_wp2
      go_roundw
      case rel => exact ⟨j + 1, _, by omega, by rw [List.length_append, HBS.out, List.length_singleton], by go_num, HW4⟩
      case measure => simp [intOf]; omega
    · obtain rfl : j = c.length := by omega
      have HBS := Aside0.mk hbs
      obtain ⟨D, hD⟩ : ∃ D, D = wr.heap.size := ⟨_, rfl⟩
      have hDw : w.heap.size + 1 ≤ D := by have := blk_lt HW.out.h1; omega
      go_wp2_with ((with_reducible refine gate_dst (N := 35) rfl ?_); refine Kd.R_make (Kd.slice 3 (Kd.int .i64)) (w0 := wr) D 22 rfl (N := 35) rfl 30 _ _ rfl (c.length : Int) rfl rfl Try.underlying30 (.slice none 0 0) 24 info22 rfl (by decide) (by omega) [] (ok := fun x => D ≤ x) (okp := fun _ => False) ⟨_, rfl, Kd.R_nil _ _ _ _ _⟩ (fun _ h => h.elim) (Nat.le_of_eq hD) (by omega) (by omega) (Below.refl _ _) (Nat.le_of_eq hD) ?_; intro v6 w6 hR6 hB6 hg6 hat6; rw [Int.toNat_natCast] at hR6; clear hg6 hat6; have HR6 : Aside0 ((Kd.slice 3 (Kd.int .i64)).R 22 w6 D (fun x => D ≤ x) v6 (outJ s c 0)) := ⟨by rw [outJ_zero]; exact hR6⟩; have HW6 := Aside0.mk (HW.out.below (by rw [← hD]; exact hB6)); clear hR6 hB6; obtain ⟨⟨c0, c1, c2, c3, c4⟩, _⟩ := hl_read HW6.out.h1)
      have hmake : ∀ V, Below w6.heap.size w6 V → True := fun _ _ => trivial
      clear hmake
      obtain ⟨A3, c3', rfl, hcap, hC3⟩ := Kd.R_reads HW6.out.hR
      clear hC3 c0 c1 c2 c3 c4 HW
      rw [hbs] at HW6 ⊢
      go_loopw [7, 8, 9] (fun v7 v8 _ U => ∃ (j g : Nat) (caps : Array Value), j ≤ c.length ∧ v8 = .int .i64 ((c.length : Int) - 1 - j) ∧ v7 = .func (.func g) #[] caps ∧ Aside0 (FrOk U s.length g caps (frm s c j)) ∧ Aside0 (Bw w U s.length s (.slice B c.length cb) (workAt s c) (.slice A3 (c.length + 1) c3') bs) ∧ Aside0 ((Kd.slice 3 (Kd.int .i64)).R 22 U D (fun x => D ≤ x) v6 (outJ s c j))) (fun _ v8 _ _ => (intOf v8 + 1).toNat)
      case atStart => exact ⟨0, 90, #[], Nat.zero_le _, by simp, rfl, ⟨zero_fr _ _⟩, HW6, HR6⟩
      case round =>
        clear HW6 HR6
        obtain ⟨j, g, caps, hj, rfl, rfl, HF, HW, HR⟩ := hrel
        by_cases hlt : j < c.length
        · obtain ⟨m, hm⟩ : ∃ m : Nat, m + 1 + j = c.length := ⟨c.length - 1 - j, by omega⟩
          rw [show (c.length : Int) - 1 - j = (m : Int) from by omega]
          have HC1 := Kd.C_below HQ.out HW.out.hb
          obtain ⟨ad, rfl, hx⟩ := Kd.at_int HC1 (m : Int) (by omega) (by omega)
          rw [Int.toNat_natCast] at hx
          clear HC1
          have HX := Aside0.mk (HCS.out (rd c m) (rd_mem (by omega)))
          have HRW := Aside0.mk (workAt_range hk1 hk3 hpos HCS.out (m + 1) (by omega))
          have HRF := Aside0.mk (frm_range hk1 hk3 hpos HCS.out h40 j hj)
          have HPS := Aside0.mk (bps_spec hk1 hk3 hpos HCS.out h40 hlt).1
          have HPP := Aside0.mk (allP_pos HPS.out)
          have HFS : Aside0 (frm s c (j + 1) = distF (bps s c j)) := ⟨rfl⟩
          have HOS := Aside0.mk (outJ_succ s c j hlt)
          rw [show c.length - 1 - j = m by omega] at HOS
          have HEQ : Aside0 (bps s c j = (chF (fun p => workAt s c (m + 1) p + frm s c j p) (rd c (m : Int)) (allP s.length)).1) := ⟨by unfold bps; rw [show c.length - j = m + 1 by omega, show c.length - 1 - j = m by omega]⟩
          obtain ⟨-, -, hC3⟩ := Kd.R_reads' HW.out.hR
          obtain ⟨a3, rfl, hy⟩ := ReadsOf.at_ (Kd.reads_of_C (enc := fun b : Nat => Value.map (some b)) (d := (0 : Nat)) (h1 := fun _ => rfl) hC3) ((m + 1 : Nat) : Int) (by omega) (by rw [HBS.out]; omega)
          rw [Int.toNat_natCast] at hy
          rw [show rdOf 0 bs ((m + 1 : Nat) : Int) = bs.getD (m + 1) 0 from by simp [rdOf]] at hy
          have HMJ := Aside0.mk (HW.out.hM (m + 1) (by rw [HBS.out]; omega))
          generalize bs.getD (m + 1) 0 = mb at *
          clear hC3
          have hwr : IntKind.i64.wrap ((m : Int) + 1) = ((m + 1 : Nat) : Int) := by rw [IntWalk.i64_in _ (by omega)]; omega
          have hm1 : ((m + 1 : Nat) : Int) < ((c.length + 1 : Nat) : Int) := by omega
          have hm2 : (0 : Int) ≤ ((m + 1 : Nat) : Int) := by omega
          have hm3 : (m : Int) < (c.length : Int) := by omega
          have hm4 : m < c.length := by omega
          have hm7 : m + 1 < bs.length := by omega
          have hm8 : (m : Int) + 1 < (bs.length : Int) := by omega
          have hm9 : ((m + 1 : Nat) : Int) < (bs.length : Int) := by omega
          have hm5 : (0 : Int) ≤ (m : Int) + 1 := by omega
          have hm6 : (m : Int) + 1 < (c.length : Int) + 1 := by omega
          have ea3 : a3.add (m + 1) = ⟨a3.block, a3.off + (m + 1), none⟩ := by simp [Addr.add]
          rw [ea3] at hy
          clear ea3
          have HCH : Aside0 (∀ V, Below wr.heap.size wr V → Calls Try.prog 61 #[.agg #[.int .i64 s.length, .int .i64 (rd s 0), .int .i64 (rd s 1), .int .i64 (rd s 2), .slice (some ad) c.length cb], .map (some mb), .int .i64 (rd c m), .func (.func g) #[] caps] V fun e w' => e = .returned (.agg #[.int .i64 (rd (bps s c j) 0), .int .i64 (rd (bps s c j) 1), .int .i64 (rd (bps s c j) 2)]) ∧ Below V.heap.size V w') := by
            refine ⟨fun V hV => ?_⟩
            obtain ⟨l, hl1, _, hl2⟩ := HMJ.out.below HMJ.out.lt hV
            rw [HEQ.out]
            refine cheapest_calls s.length s (.slice (some ad) c.length cb) mb l _ (rd c m) g #[] caps (workAt s c (m + 1)) (frm s c j) V HF.out.1 hk3 hl1 hl2 (fun p hp => ?_) (fun p hp => ?_) (fun p hp W2 h2 => ?_)
            · have := HRW.out p hp; omega
            · have := HRF.out p hp; omega
            · exact (HF.out.below hV).2 p hp W2 h2
          obtain ⟨⟨c0, c1, c2, c3, c4⟩, _⟩ := hl_read HW.out.h1
          have hne1 : w.heap.size ≠ wr.heap.size := by have := blk_lt HW.out.h1; omega
          have hne2 : wr.heap.size ≠ w.heap.size := Ne.symm hne1
          have hne3 := World.new_ne _ _ hx
          have hne4 := World.new_ne _ _ hy
          have hne5 := Ne.symm hne3
          have hne6 := Ne.symm hne4
          have HX2 := Aside0.mk hx
          have HY2 := Aside0.mk hy
          go_upto_region 12 with (fail)
          have HMM := Aside0.mk hm
          have HDD := Aside0.mk hD
          have HDW := Aside0.mk hDw
          have HJ := Aside0.mk hlt
          clear hm hbs hj hlt hD hDw hcap
          go_region_held3 (fun U => U.cell? ⟨w.heap.size, 0, none⟩ = some (.int .i64 s.length) ∧ U.cell? ⟨w.heap.size, 1, none⟩ = some (.int .i64 (rd s 0)) ∧ U.cell? ⟨w.heap.size, 2, none⟩ = some (.int .i64 (rd s 1)) ∧ U.cell? ⟨w.heap.size, 3, none⟩ = some (.int .i64 (rd s 2)) ∧ U.cell? ⟨w.heap.size, 4, none⟩ = some (.slice (some ad) c.length cb) ∧
            U.cell? ⟨a3.block, a3.off + (m + 1), none⟩ = some (.map (some mb)) ∧ U.cell? (ad.add m) = some (.int .i64 (rd c m))) (go_keep)
            (first
              | (go_at_call 61; refine (HCH.out _ (below_drew1 (Below.refl _ _))).mono ?_; rintro e V3 ⟨rfl, hb0⟩; have HB3 : Aside0 (Below wr.heap.size wr V3) := ⟨below_step (below_drew1 (Below.refl _ _)) hb0⟩; clear hb0; have HW3 := Aside0.mk (HW.out.below HB3.out); obtain ⟨⟨c0, c1, c2, c3, c4⟩, _⟩ := hl_read HW3.out.h1; have hx := (HB3.out.cell (World.block_lt_of_cell? _ _ HX2.out)).trans HX2.out; have hy := (HB3.out.cell (World.block_lt_of_cell? _ _ HY2.out)).trans HY2.out; have n1 : w.heap.size ≠ V3.heap.size := (by have := blk_lt HW3.out.h1; omega); have n2 : V3.heap.size ≠ w.heap.size := Ne.symm n1; have n3 := World.new_ne _ _ hx; have n4 := World.new_ne _ _ hy; have n5 := Ne.symm n3; have n6 := Ne.symm n4)
              | (go_at_call 61; refine (HCH.out _ (below_alloc (below_drew1 (Below.refl _ _)) _)).mono ?_; rintro e V3 ⟨rfl, hb0⟩; have HG3 : Aside0 (V3.heap[wr.heap.size]? = some (.cells (sp []) 60 (0, 0))) := ⟨(hb0.block _ (by simp)).trans (aln wr.drew _)⟩; have HB3 : Aside0 (Below wr.heap.size wr V3) := ⟨below_step (below_alloc (below_drew1 (Below.refl _ _)) _) hb0⟩; clear hb0; obtain ⟨r0, r1, r2, f0, f1, f2⟩ := sp_read HG3.out; have HW3 := Aside0.mk (HW.out.below HB3.out); obtain ⟨⟨c0, c1, c2, c3, c4⟩, _⟩ := hl_read HW3.out.h1; have hx := (HB3.out.cell (World.block_lt_of_cell? _ _ HX2.out)).trans HX2.out; have hy := (HB3.out.cell (World.block_lt_of_cell? _ _ HY2.out)).trans HY2.out))
          · go_upto_region 13 with (fail)
            clear c0 c1 c2 c3 c4 hx hy n1 n2 n3 n4 n5 n6 hne1 hne2 hne3 hne4 hne5 hne6
            refine wpc_world (fun W => Aside0 (Below wr.heap.size wr W) ∧ Aside0 (W.heap[V3.heap.size]? = some (.cells (sp (bps s c j)) 60 (0, 0)))) ⟨⟨below_alloc HB3.out _⟩, ⟨aln _ _⟩⟩ ?_
            rintro W ⟨HBW, HG⟩
            have HW4 := Aside0.mk (HW.out.below HBW.out)
            have HR4 := Aside0.mk (Kd.R_below HR.out HBW.out)
            obtain ⟨g6, c6, e6, hg6, hg6', hty⟩ := Kd.R_form HR4.out (by rw [outJ_len]; omega)
            have HTY := Aside0.mk hty
            have HGL := Aside0.mk (And.intro hg6 hg6')
            clear hg6 hg6' hty
            rw [outJ_len] at e6
            subst e6
            obtain ⟨⟨c0, c1, c2, c3, c4⟩, _⟩ := hl_read HW4.out.h1
            obtain ⟨r0, r1, r2, _, _, _⟩ := sp_read HG.out
            have hk3' : (s.length : Int) ≤ 3 := by omega
            go_wp2_with (first
              | (go_at_call 86; refine (clone_sp V3.heap.size s.length (bps s c j) _ HG.out HPP.out.len hk3).mono ?_; rintro e W5 ⟨vr, rfl, hr5, hb5⟩; have HB5 := Aside0.mk hb5; have HR5 := Aside0.mk (Kd.R_below HR4.out hb5); have HN5 := Aside0.mk hr5; have HG5 := Aside0.mk ((hb5.block _ (blk_lt HG.out)).trans HG.out); have HW5 := Aside0.mk (HW4.out.below hb5); have HT5 : Aside0 (∃ cells, W5.heap[g6]? = some (.cells cells 22 (0, 0))) := ⟨by obtain ⟨cl, hcl⟩ := HTY.out; exact ⟨cl, (HB5.out.block _ HGL.out.2).trans hcl⟩⟩; clear hb5 hr5; obtain ⟨Ar, cr, rfl⟩ := Kd.R_slice HN5.out)
              | ((with_reducible refine gate_store (t := 22) (p := 63) (v := .tmp 62) rfl ?_); obtain ⟨oc, hoc, _, hocc, _⟩ := Kd.R_elem HR5.out [] (m : Int) (by omega) (by omega); refine Kd.R_store (Kd.slice 3 (Kd.int .i64)) (w0 := W5) (W := W5) D rfl rfl 22 (.tmp 63) (.tmp 62) rfl 22 (g := g6) (n := c.length) (cap := c6) (o' := m) (m : Int) 0 (outJ s c j) (bps s c j) (.slice Ar (bps s c j).length cr) [.slice Ar (bps s c j).length cr] oc (fun x => D ≤ x) (fun x => W.heap.size ≤ x) rfl (by simp [Kd.slice]) rfl rfl (by kernel_rfl) (by simp [Value.oneCell']) HR5.out (by omega) (by omega) hoc hocc (by simp [Kd.slice]) ⟨_, by rw [List.drop_eq_nil_of_le (by rw [hoc]; simp [Kd.slice])]; rfl, Kd.R_lower HN5.out (by have := HGL.out; omega)⟩ (fun q hq => by have := HGL.out; have := HDD.out; omega) (Below.refl _ _) ?_; intro w7 hR7 hB7 hg7; rw [Int.toNat_natCast, HOS.out] at hR7; have HR7 := Aside0.mk hR7; have HW7 := Aside0.mk (HW5.out.over HDW.out hB7 hg7 HT5.out); have HG7 : Aside0 (w7.heap[V3.heap.size]? = some (.cells (sp (bps s c j)) 60 (0, 0))) := ⟨blk_grown HG5.out hg7 (fun e => by obtain ⟨cl, hcl⟩ := HT5.out; have e2 : g6 = V3.heap.size := (Option.some.inj e).symm; rw [e2, HG5.out] at hcl; cases hcl)⟩; clear hR7 hB7 hg7 hoc hocc))
            go_roundw
            case rel =>
              have hmm := HMM.out
              refine ⟨j + 1, 91, _, by have := HJ.out; omega, ?_, rfl, ⟨from_fr HW7.out.h1 HG7.out hk3 HPP.out⟩, HW7, HR7⟩
              congr 1
              omega
            case measure => simp [intOf]
          · go_upto_region 13 with (fail)
            clear c0 c1 c2 c3 c4 hx hy r0 r1 r2 f0 f1 f2 hne1 hne2 hne3 hne4 hne5 hne6
            refine wpc_world (fun W => Aside0 (Below wr.heap.size wr W) ∧ Aside0 (W.heap[wr.heap.size]? = some (.cells (sp (bps s c j)) 60 (0, 0)))) ⟨⟨((HB3.out.setCell (Nat.le_refl _) _).setCell (Nat.le_refl _) _).setCell (Nat.le_refl _) _⟩, ⟨sp_store3 _ HG3.out⟩⟩ ?_
            rintro W ⟨HBW, HG⟩
            have HW4 := Aside0.mk (HW.out.below HBW.out)
            have HR4 := Aside0.mk (Kd.R_below HR.out HBW.out)
            obtain ⟨g6, c6, e6, hg6, hg6', hty⟩ := Kd.R_form HR4.out (by rw [outJ_len]; omega)
            have HTY := Aside0.mk hty
            have HGL := Aside0.mk (And.intro hg6 hg6')
            clear hg6 hg6' hty
            rw [outJ_len] at e6
            subst e6
            obtain ⟨⟨c0, c1, c2, c3, c4⟩, _⟩ := hl_read HW4.out.h1
            obtain ⟨r0, r1, r2, _, _, _⟩ := sp_read HG.out
            have hk3' : (s.length : Int) ≤ 3 := by omega
            go_wp2_with (first
              | (go_at_call 86; refine (clone_sp wr.heap.size s.length (bps s c j) _ HG.out HPP.out.len hk3).mono ?_; rintro e W5 ⟨vr, rfl, hr5, hb5⟩; have HB5 := Aside0.mk hb5; have HR5 := Aside0.mk (Kd.R_below HR4.out hb5); have HN5 := Aside0.mk hr5; have HG5 := Aside0.mk ((hb5.block _ (blk_lt HG.out)).trans HG.out); have HW5 := Aside0.mk (HW4.out.below hb5); have HT5 : Aside0 (∃ cells, W5.heap[g6]? = some (.cells cells 22 (0, 0))) := ⟨by obtain ⟨cl, hcl⟩ := HTY.out; exact ⟨cl, (HB5.out.block _ HGL.out.2).trans hcl⟩⟩; clear hb5 hr5; obtain ⟨Ar, cr, rfl⟩ := Kd.R_slice HN5.out)
              | ((with_reducible refine gate_store (t := 22) (p := 63) (v := .tmp 62) rfl ?_); obtain ⟨oc, hoc, _, hocc, _⟩ := Kd.R_elem HR5.out [] (m : Int) (by omega) (by omega); refine Kd.R_store (Kd.slice 3 (Kd.int .i64)) (w0 := W5) (W := W5) D rfl rfl 22 (.tmp 63) (.tmp 62) rfl 22 (g := g6) (n := c.length) (cap := c6) (o' := m) (m : Int) 0 (outJ s c j) (bps s c j) (.slice Ar (bps s c j).length cr) [.slice Ar (bps s c j).length cr] oc (fun x => D ≤ x) (fun x => W.heap.size ≤ x) rfl (by simp [Kd.slice]) rfl rfl (by kernel_rfl) (by simp [Value.oneCell']) HR5.out (by omega) (by omega) hoc hocc (by simp [Kd.slice]) ⟨_, by rw [List.drop_eq_nil_of_le (by rw [hoc]; simp [Kd.slice])]; rfl, Kd.R_lower HN5.out (by have := HGL.out; omega)⟩ (fun q hq => by have := HGL.out; have := HDD.out; omega) (Below.refl _ _) ?_; intro w7 hR7 hB7 hg7; rw [Int.toNat_natCast, HOS.out] at hR7; have HR7 := Aside0.mk hR7; have HW7 := Aside0.mk (HW5.out.over HDW.out hB7 hg7 HT5.out); have HG7 : Aside0 (w7.heap[wr.heap.size]? = some (.cells (sp (bps s c j)) 60 (0, 0))) := ⟨blk_grown HG5.out hg7 (fun e => by obtain ⟨cl, hcl⟩ := HT5.out; have e2 : g6 = wr.heap.size := (Option.some.inj e).symm; rw [e2, HG5.out] at hcl; cases hcl)⟩; clear hR7 hB7 hg7 hoc hocc))
            go_roundw
            case rel =>
              have hmm := HMM.out
              refine ⟨j + 1, 91, _, by have := HJ.out; omega, ?_, rfl, ⟨from_fr HW7.out.h1 HG7.out hk3 HPP.out⟩, HW7, HR7⟩
              congr 1
              omega
            case measure => simp [intOf]
        · obtain rfl : j = c.length := by omega
          rw [show (c.length : Int) - 1 - c.length = -1 from by omega]
          go_wp2
          go_ret
          exact ⟨v6, rfl, Kd.R_mono (Kd.R_lower HR.out (by omega)) (fun q hq => by omega), HW.out.hb⟩
end Go.Proofs.Ythadaajgjloogaa.L

namespace Go.Proofs.Ythadaajgjloogaa.L
open Go.RowKit Go.Shelf Go.Proofs.YthadaajgjloogaaW.PrintWords Go.Proofs.YthadaajgjloogaaW.PrintLast Go.Proofs.YthadaajgjloogaaW.PrintMore
attribute [local go_sem] max2_int min2_int max_two min_two max_three min_three max_four min_four
attribute [local go_sem] Oper.semAt_some

/-! ### Best (30) -/
theorem bestL_len (s c : List Int) : (bestL s c).length = c.length := outJ_len s c _
theorem rL_get (l : List (List Int)) (i : Nat) (h : i < l.length) : rL l i = l[i] := by simp [rL, PLiftsWorks.rd_L1, List.getD, h]
theorem bestL_get (s c : List Int) (i : Nat) (h : i < c.length) : rL (bestL s c) i = bps s c (c.length - 1 - i) := by
  rw [rL_get _ _ (by rw [bestL_len]; exact h)]
  simp [bestL, outJ]
theorem gen_sorted : ∀ (d : Nat) (p : List Int) (f : Nat) (x : List Int), x ∈ gen d p f → ∃ r, x = p ++ r ∧ r.Pairwise (· ≤ ·) ∧ ∀ y ∈ r, (f : Int) ≤ y
  | 0, p, f, x, h => by
    simp only [gen, List.mem_singleton] at h
    exact ⟨[], by simp [h], List.Pairwise.nil, by simp⟩
  | d + 1, p, f, x, h => by
    simp only [gen, List.mem_flatMap, List.mem_range] at h
    obtain ⟨i, hi, hx⟩ := h
    obtain ⟨r, rfl, hr, hb⟩ := gen_sorted d _ _ x hx
    refine ⟨((f + i : Nat) : Int) :: r, by simp, List.pairwise_cons.2 ⟨hb, hr⟩, fun y hy => ?_⟩
    rcases List.mem_cons.1 hy with rfl | hy
    · omega
    · have := hb y hy; omega
theorem allP_sorted {k : Nat} {x : List Int} (h : x ∈ allP k) : x.Pairwise (· ≤ ·) := by
  obtain ⟨r, rfl, hr, _⟩ := gen_sorted k [] 0 x h
  simpa using hr
theorem posB_of_allP {k : Nat} (hk : 1 ≤ k) (hk3 : k ≤ 3) {p : List Int} (h : p ∈ allP k) : posB p = true := by
  have hp := allP_pos h
  rw [posB_iff, hp.len]
  refine ⟨⟨hk, hk3⟩, fun i hi => ?_⟩
  have hs := allP_sorted h
  have hb := hp.all _ (rd_mem (i := i) (by rw [hp.len]; exact hi))
  refine ⟨hb.1, hb.2, fun h0 => ?_⟩
  rw [List.pairwise_iff_getElem] at hs
  have hl := hp.len
  have := hs (i - 1) i (by omega) (by omega) (by omega)
  rw [show (i : Int) - 1 = ((i - 1 : Nat) : Int) by omega]
  simpa [rd, List.getD, show i - 1 < p.length by omega, show i < p.length by omega] using this
theorem best_sched {s c : List Int} (hh : hallB s c = true) : schedB s.length c (bestL s c) = true := by
  obtain ⟨⟨hpos, hk1, hk3⟩, h40, hcs⟩ := hallB_parts hh
  simp only [schedB, Bool.and_eq_true, decide_eq_true_eq, bestL_len, true_and]
  intro j hj
  have h := bps_spec hk1 hk3 hpos hcs h40 (j := c.length - 1 - j) (by omega)
  rw [show c.length - 1 - (c.length - 1 - j) = j by omega] at h
  simp only [rowB, Bool.and_eq_true, decide_eq_true_eq, bestL_get s c j hj]
  exact ⟨⟨posB_of_allP hk1 hk3 h.1, (allP_pos h.1).len⟩, h.2.1⟩
def bestC (s c : List Int) : Int := costTo s (bestL s c) c.length
theorem ansK_best {s c : List Int} (hh : hallB s c = true) : ansK s c (bestL s c) = .tuple #[.int .i64 (bestC s c), .int .i64 0] := by
  simp [ansK, hh, best_sched hh, bestL_len, bestC]

set_option maxHeartbeats 2000000 in
theorem Best_no (A B : Option Addr) (ca cb : Nat) (s c : List Int) (w : World) (hr : Kd.C (Kd.int .i64) w A s.length s) (hq : Kd.C (Kd.int .i64) w B c.length c) (hh : hallB s c = false) :
    Calls Try.prog 30 #[.slice A s.length ca, .slice B c.length cb] w fun e w' => e = .returned (.tuple #[.slice none 0 0, .int .i64 0, .int .i64 2]) ∧ Below w.heap.size w w' := by
  have HH := Aside0.mk (ansH_no (s := s) (c := c) (cv := .slice B c.length cb) hh)
  have HN := Aside0.mk (newHall_calls A B ca cb s c w hr hq)
  clear hr hq hh
  go_enter Try.func30, Try.ntmps30
  go_wp2_with (go_at_call 47; refine HN.out.mono ?_; rintro e W ⟨rfl, hb⟩; rw [HH.out]; have HB := Aside0.mk hb; clear hb)
  go_ret3
  exact ⟨rfl, HB.out.alloc HB.out.size _⟩
set_option maxHeartbeats 2000000 in
theorem Best_yes (A B : Option Addr) (ca cb : Nat) (s c : List Int) (w : World) (hr : Kd.C (Kd.int .i64) w A s.length s) (hq : Kd.C (Kd.int .i64) w B c.length c) (hh : hallB s c = true) :
    Calls Try.prog 30 #[.slice A s.length ca, .slice B c.length cb] w fun e w' => ∃ v, e = .returned (.tuple #[v, .int .i64 (bestC s c), .int .i64 0]) ∧ Rows w' w.heap.size v (bestL s c) ∧ Below w.heap.size w w' := by
  have HH := Aside0.mk (ansH_yes (s := s) (c := c) (cv := .slice B c.length cb) hh)
  have HN := Aside0.mk (newHall_calls A B ca cb s c w hr hq)
  have HT := Aside0.mk hh
  have HQ := Aside0.mk hq
  have HR := Aside0.mk hr
  have HAK := Aside0.mk (ansK_best hh)
  clear hr hq hh
  go_enter Try.func30, Try.ntmps30
  go_upto_region 4 with (go_at_call 47; refine HN.out.mono ?_; rintro e W ⟨rfl, hb⟩; rw [HH.out]; have HB := Aside0.mk hb; clear hb)
  refine wpc_world (fun V => Aside0 (V.heap[W.heap.size]? = some (.cells (hl s.length s (.slice B c.length cb)) 62 (0, 0))) ∧ Aside0 (Below w.heap.size w V)) ⟨⟨aln _ _⟩, ⟨below_alloc HB.out _⟩⟩ ?_
  rintro V ⟨H8, HBV⟩
  obtain ⟨⟨c0, c1, c2, c3, c4⟩, _⟩ := hl_read H8.out
  go_wp2_with (first
    | (go_at_call 59; refine (best_calls s c B cb _ HT.out (Kd.C_below HQ.out HBV.out)).mono ?_; rintro e W2 ⟨v, rfl, hr2, hb2⟩; have HR2 := Aside0.mk hr2; have HB2 := Aside0.mk hb2; clear hr2 hb2; obtain ⟨A2, c2', rfl, _, hC2⟩ := Kd.R_reads HR2.out; have HC2 := Aside0.mk hC2; clear hC2)
    | (go_at_call 28; refine (Cost_calls A B A2 ca cb c2' s c (bestL s c) _ (Kd.C_below HR.out (below_step HBV.out HB2.out)) (Kd.C_below HQ.out (below_step HBV.out HB2.out)) HC2.out).mono ?_; rintro e W3 ⟨rfl, hb3⟩; rw [HAK.out]; have HB3 := Aside0.mk hb3; clear hb3))
  go_ret3
  exact ⟨_, rfl, Kd.R_mono (Kd.R_lower (Kd.R_below HR2.out HB3.out) HBV.out.size) (fun q hq => Nat.le_trans HBV.out.size hq), below_step (below_step HBV.out HB2.out) HB3.out⟩
end Go.Proofs.Ythadaajgjloogaa.L

namespace Go.Proofs.Ythadaajgjloogaa.L
open Go.RowKit Go.Shelf Go.Proofs.YthadaajgjloogaaW.PrintWords

/-! ### sorting by insertion, and what awake asks for -/
def insL (x : Int) : List Int → List Int
  | [] => [x]
  | y :: r => if y ≤ x then y :: insL x r else x :: y :: r
/-- Each element inserted behind those that are not greater, from the left. -/
def isort (l : List Int) : List Int := l.foldl (fun acc x => insL x acc) []
theorem insL_perm (x : Int) : ∀ l, (insL x l).Perm (x :: l)
  | [] => List.Perm.refl _
  | y :: r => by
    simp only [insL]
    split
    · exact ((insL_perm x r).cons y).trans (List.Perm.swap x y r)
    · exact List.Perm.refl _
theorem insL_sorted (x : Int) : ∀ l, l.Pairwise (· ≤ ·) → (insL x l).Pairwise (· ≤ ·)
  | [], _ => by simp [insL]
  | y :: r, h => by
    obtain ⟨h1, h2⟩ := List.pairwise_cons.1 h
    simp only [insL]
    split
    · rename_i hy
      refine List.pairwise_cons.2 ⟨fun z hz => ?_, insL_sorted x r h2⟩
      rcases List.mem_cons.1 ((insL_perm x r).mem_iff.1 hz) with rfl | hz
      · exact hy
      · exact h1 z hz
    · rename_i hy
      refine List.pairwise_cons.2 ⟨fun z hz => ?_, h⟩
      rcases List.mem_cons.1 hz with rfl | hz
      · omega
      · have := h1 z hz; omega
theorem foldl_ins (l : List Int) : ∀ acc : List Int, acc.Pairwise (· ≤ ·) → (l.foldl (fun acc x => insL x acc) acc).Pairwise (· ≤ ·) ∧ (l.foldl (fun acc x => insL x acc) acc).Perm (acc ++ l) := by
  induction l with
  | nil => intro acc h; exact ⟨h, by simp⟩
  | cons x r ih =>
    intro acc h
    obtain ⟨h1, h2⟩ := ih (insL x acc) (insL_sorted x acc h)
    refine ⟨h1, h2.trans ?_⟩
    refine ((insL_perm x acc).append_right r).trans ?_
    simp only [List.cons_append]
    exact List.perm_middle.symm
theorem srt_eq (l : List Int) : srt l = isort l := by
  obtain ⟨h1, h2⟩ := foldl_ins l [] List.Pairwise.nil
  refine List.Perm.eq_of_pairwise (le := fun a b : Int => a ≤ b) (fun a b _ _ h3 h4 => by omega) (srt_sorted l) h1 ?_
  exact (List.mergeSort_perm l _).trans (by simpa [isort] using h2.symm)
def aftV' (f : List Int → Int) (x : Int) (p : List Int) (i : Nat) : Int := f (isort (p.set i x)) + ab (rd p i) x
theorem aftV_eq (f : List Int → Int) (x : Int) (p : List Int) (i : Nat) : aftV f x p i = aftV' f x p i := by unfold aftV aftV'; rw [srt_eq]
def aftB' (f : List Int → Int) (x : Int) (p : List Int) : Nat → Int
  | 0 => aftV' f x p 0
  | j + 1 => min (aftV' f x p (j + 1)) (aftB' f x p j)
theorem aftB_eq (f : List Int → Int) (x : Int) (p : List Int) : ∀ j, aftB f x p j = aftB' f x p j
  | 0 => aftV_eq f x p 0
  | j + 1 => by simp only [aftB, aftB', aftV_eq, aftB_eq f x p j]; omega
def workAt' (s c : List Int) : Nat → List Int → Int
  | 0 => distF s
  | j + 1 => fun p => aftB' (workAt' s c j) (rd c j) p (s.length - 1)
theorem workAt_eq (s c : List Int) : ∀ j, workAt s c j = workAt' s c j
  | 0 => rfl
  | j + 1 => by
    funext p
    simp only [workAt, workAt', aftF, workAt_eq s c j, aftB_eq]
/-- frm, bps and bestC, the works reckoned with isort. -/
def frm' (s c : List Int) : Nat → List Int → Int
  | 0 => fun _ => 0
  | j + 1 => distF (chF (fun p => workAt' s c (c.length - j) p + frm' s c j p) (rd c ((c.length - 1 - j : Nat) : Int)) (allP s.length)).1
theorem frm_eq (s c : List Int) : ∀ j, frm s c j = frm' s c j
  | 0 => rfl
  | j + 1 => by simp only [frm, frm', workAt_eq, frm_eq s c j]
def bps' (s c : List Int) (j : Nat) : List Int := (chF (fun p => workAt' s c (c.length - j) p + frm' s c j p) (rd c ((c.length - 1 - j : Nat) : Int)) (allP s.length)).1
theorem bps_eq (s c : List Int) (j : Nat) : bps s c j = bps' s c j := by simp only [bps, bps', workAt_eq, frm_eq]
theorem awake_runC : runC cS [0, 10] [6, 4, 6] = 8 := by decide
theorem awake_runL : rL (runL cS [0, 10] [6, 4, 6]) 0 = [4, 6] := by decide
theorem awake_pot : potF [0, 10] [0, 10] = 10 := by decide
theorem awake_work : workF [5] [7, 3] [4] = 7 := by rw [workF, workAt_eq]; decide +kernel
theorem awake_bps0 : bps [0, 10] [6, 4, 6] 0 = [0, 6] := by rw [bps_eq]; decide +kernel
theorem awake_bps1 : bps [0, 10] [6, 4, 6] 1 = [0, 4] := by rw [bps_eq]; decide +kernel
theorem awake_bps2 : bps [0, 10] [6, 4, 6] 2 = [0, 6] := by rw [bps_eq]; decide +kernel
theorem awake_best : bestC [0, 10] [6, 4, 6] = 8 := by
  have h0 := bestL_get [0, 10] [6, 4, 6] 0 (by decide)
  have h1 := bestL_get [0, 10] [6, 4, 6] 1 (by decide)
  have h2 := bestL_get [0, 10] [6, 4, 6] 2 (by decide)
  simp only [List.length_cons, List.length_nil, Nat.zero_add, Nat.reduceAdd, Nat.reduceSub, awake_bps0, awake_bps1, awake_bps2] at h0 h1 h2
  simp only [bestC, List.length_cons, List.length_nil, Nat.zero_add, Nat.reduceAdd, costTo, nowAt, h0, h1, h2]
  decide
end Go.Proofs.Ythadaajgjloogaa.L

namespace Go.Proofs.Ythadaajgjloogaa.L
open Go.RowKit Go.Shelf Go.Proofs.YthadaajgjloogaaW.PrintWords Go.Proofs.YthadaajgjloogaaW.PrintLast Go.Proofs.YthadaajgjloogaaW.PrintMore
attribute [local go_sem] max2_int min2_int max_two min_two max_three min_three max_four min_four
attribute [local go_sem] Oper.semAt_some

theorem C_lit {W : World} {g : Nat} {xs : List Int} (h : W.heap[g]? = some (.cells (xs.map (Value.int .i64)).toArray 3 (0, 0))) (hl : xs.length ≤ 1000) : Kd.C (Kd.int .i64) W (some ⟨g, 0, none⟩) xs.length xs := by
  refine Kd.C_of_reads (enc := Value.int .i64) (d := (0 : Int)) (h1 := fun _ => rfl) ⟨rfl, by omega, fun _ => ⟨_, rfl, fun j hj => ?_⟩⟩
  rw [show (⟨g, 0, none⟩ : Addr).add j = ⟨g, j, none⟩ from by cases j <;> simp [Addr.add], blk_cell h j]
  simp [hj]
theorem C_two {W : World} {g : Nat} {x y : Int} (h : W.heap[g]? = some (.cells #[.int .i64 x, .int .i64 y] 3 (0, 0))) : Kd.C (Kd.int .i64) W (some ⟨g, 0, none⟩) [x, y].length [x, y] := C_lit h (by simp)
theorem C_three {W : World} {g : Nat} {x y z : Int} (h : W.heap[g]? = some (.cells #[.int .i64 x, .int .i64 y, .int .i64 z] 3 (0, 0))) : Kd.C (Kd.int .i64) W (some ⟨g, 0, none⟩) [x, y, z].length [x, y, z] := C_lit h (by simp)
theorem C_one {W : World} {g : Nat} {x : Int} (h : W.heap[g]? = some (.cells #[.int .i64 x] 3 (0, 0))) : Kd.C (Kd.int .i64) W (some ⟨g, 0, none⟩) [x].length [x] := C_lit h (by simp)

theorem aw_careful (W : World) (g1 g2 : Nat) (h1 : W.heap[g1]? = some (.cells #[.int .i64 0, .int .i64 10] 3 (0, 0))) (h2 : W.heap[g2]? = some (.cells #[.int .i64 6, .int .i64 4, .int .i64 6] 3 (0, 0))) :
    Calls Try.prog 27 #[.slice (some ⟨g1, 0, none⟩) 2 2, .slice (some ⟨g2, 0, none⟩) 3 3] W fun e w' => ∃ v, e = .returned (.tuple #[v, .int .i64 8, .int .i64 0]) ∧ Rows w' W.heap.size v (runL cS [0, 10] [6, 4, 6]) ∧ Below W.heap.size W w' :=
  (Careful_yes _ _ 2 3 [0, 10] [6, 4, 6] W (C_two h1) (C_three h2) (by decide)).mono fun e w' h => by rw [awake_runC] at h; exact h
theorem aw_best (W : World) (g1 g2 : Nat) (h1 : W.heap[g1]? = some (.cells #[.int .i64 0, .int .i64 10] 3 (0, 0))) (h2 : W.heap[g2]? = some (.cells #[.int .i64 6, .int .i64 4, .int .i64 6] 3 (0, 0))) :
    Calls Try.prog 30 #[.slice (some ⟨g1, 0, none⟩) 2 2, .slice (some ⟨g2, 0, none⟩) 3 3] W fun e w' => ∃ v, e = .returned (.tuple #[v, .int .i64 8, .int .i64 0]) ∧ Below W.heap.size W w' :=
  (Best_yes _ _ 2 3 [0, 10] [6, 4, 6] W (C_two h1) (C_three h2) (by decide)).mono fun e w' ⟨v, h, _, hb⟩ => by rw [awake_best] at h; exact ⟨v, h, hb⟩
theorem aw_pot (W : World) (g1 g2 : Nat) (h1 : W.heap[g1]? = some (.cells #[.int .i64 0, .int .i64 10] 3 (0, 0))) (h2 : W.heap[g2]? = some (.cells #[.int .i64 0, .int .i64 10] 3 (0, 0))) :
    Calls Try.prog 21 #[.slice (some ⟨g1, 0, none⟩) 2 2, .slice (some ⟨g2, 0, none⟩) 2 2] W fun e w' => e = .returned (.tuple #[.int .i64 10, .int .i64 0]) ∧ Below W.heap.size W w' :=
  (Potential_yes _ _ 2 2 [0, 10] [0, 10] W (C_two h1) (C_two h2) (by decide) (by decide)).mono fun e w' h => by rw [awake_pot] at h; exact h
theorem aw_work (W : World) (g1 g2 g3 : Nat) (h1 : W.heap[g1]? = some (.cells #[.int .i64 5] 3 (0, 0))) (h2 : W.heap[g2]? = some (.cells #[.int .i64 7, .int .i64 3] 3 (0, 0))) (h3 : W.heap[g3]? = some (.cells #[.int .i64 4] 3 (0, 0))) :
    Calls Try.prog 14 #[.slice (some ⟨g1, 0, none⟩) 1 1, .slice (some ⟨g2, 0, none⟩) 2 2, .slice (some ⟨g3, 0, none⟩) 1 1] W fun e w' => e = .returned (.tuple #[.int .i64 7, .int .i64 0]) ∧ Below W.heap.size W w' :=
  (Work_yes _ _ _ 1 2 1 [5] [7, 3] [4] W (C_one h1) (C_two h2) (C_one h3) (by decide)).mono fun e w' h => by rw [awake_work] at h; exact h
theorem aw_ints (W : World) (A0 : Option Addr) (c0 g : Nat) (l : List Int) (hl : l = [4, 6]) (h0 : Kd.C (Kd.int .i64) W A0 l.length l) (hc : l.length ≤ c0) (h1 : W.heap[g]? = some (.cells #[.int .i64 4, .int .i64 6] 3 (0, 0))) :
    Calls Try.prog 36 #[.slice A0 l.length c0, .slice (some ⟨g, 0, none⟩) 2 2] W fun e w' => e = .returned (.bool true) ∧ Drawn0 W w' := by
  refine PLiftsWorks.turndownlaw07_ints.calls 5 A0 c0 l _ 2 [4, 6] true W h0 hc (C_two h1) (by decide) ?_
  rw [hl]; kernel_rfl

set_option maxHeartbeats 4000000 in
theorem awake_calls (w : World) : Calls Try.prog 17 #[] w fun e w' => e = .returned (.bool true) ∧ Below w.heap.size w w' := by
  have HLn : Aside0 ((runL cS [0, 10] [6, 4, 6]).length = 3) := ⟨by decide⟩
  go_enter Try.func17, Try.ntmps17
  go_upto_region 2 with (go_at_call 27; refine (aw_careful _ w.heap.size (w.heap.size + 1) (alo (aln _ _) _) (aln' _ _ (by simp))).mono ?_; rintro e W ⟨v, rfl, hr, hb⟩; have HB := Aside0.mk hb; have HR := Aside0.mk hr; clear hb hr; obtain ⟨A, c, rfl, hc, hC⟩ := Kd.R_reads HR.out; rw [HLn.out] at hC ⊢; have HC := Aside0.mk hC; clear hC)
  refine wpc_world (fun V => Aside0 (Kd.C (Kd.slice 3 (Kd.int .i64)) V A 3 (runL cS [0, 10] [6, 4, 6])) ∧ Aside0 (Below w.heap.size w V)) ⟨⟨HC.out⟩, ⟨below_step (below_alloc (below_alloc (Below.refl _ _) _) _) HB.out⟩⟩ ?_
  clear HB HR HC
  rintro V ⟨HC, HB⟩
  go_upto_region 3 with (go_at_call 30; refine (aw_best _ V.heap.size (V.heap.size + 1) (alo (aln _ _) _) (aln' _ _ (by simp))).mono ?_; rintro e W2 ⟨v2, rfl, hb⟩; have HB2 := Aside0.mk hb; clear hb)
  refine wpc_world (fun V => Aside0 (Kd.C (Kd.slice 3 (Kd.int .i64)) V A 3 (runL cS [0, 10] [6, 4, 6])) ∧ Aside0 (Below w.heap.size w V)) ⟨⟨Kd.C_below (Kd.C_alloc (Kd.C_alloc HC.out _) _) HB2.out⟩, ⟨below_step (below_alloc (below_alloc HB.out _) _) HB2.out⟩⟩ ?_
  clear HB HC HB2
  rintro Va ⟨HC, HB⟩
  go_upto_region 4 with (go_at_call 21; refine (aw_pot _ Va.heap.size (Va.heap.size + 1) (alo (aln _ _) _) (aln' _ _ (by simp))).mono ?_; rintro e W3 ⟨rfl, hb⟩; have HB2 := Aside0.mk hb; clear hb)
  refine wpc_world (fun V => Aside0 (Kd.C (Kd.slice 3 (Kd.int .i64)) V A 3 (runL cS [0, 10] [6, 4, 6])) ∧ Aside0 (Below w.heap.size w V)) ⟨⟨Kd.C_below (Kd.C_alloc (Kd.C_alloc HC.out _) _) HB2.out⟩, ⟨below_step (below_alloc (below_alloc HB.out _) _) HB2.out⟩⟩ ?_
  clear HB HC HB2
  rintro Vb ⟨HC, HB⟩
  go_upto_region 5 with (go_at_call 14; refine (aw_work _ Vb.heap.size (Vb.heap.size + 1) (Vb.heap.size + 2) (alo (alo (aln _ _) _) _) (alo (aln' _ _ (by simp)) _) (aln' _ _ (by simp))).mono ?_; rintro e W4 ⟨rfl, hb⟩; have HB2 := Aside0.mk hb; clear hb)
  refine wpc_world (fun V => Aside0 (Kd.C (Kd.slice 3 (Kd.int .i64)) V A 3 (runL cS [0, 10] [6, 4, 6])) ∧ Aside0 (Below w.heap.size w V)) ⟨⟨Kd.C_below (Kd.C_alloc (Kd.C_alloc (Kd.C_alloc HC.out _) _) _) HB2.out⟩, ⟨below_step (below_alloc (below_alloc (below_alloc HB.out _) _) _) HB2.out⟩⟩ ?_
  clear HB HC HB2
  rintro Vc ⟨HC, HB⟩
  have HL : Aside0 (PLiftsWorks.rd_L1 (runL cS [0, 10] [6, 4, 6]) 0 = [4, 6]) := ⟨awake_runL⟩
  obtain ⟨ad, A0, c0, rfl, hx, hcc, hC0⟩ := PLiftsWorks.at_L1 HC.out 0 (by omega) (by omega)
  rw [HL.out] at hx hcc hC0
  have HC0 := Aside0.mk hC0
  have HCC := Aside0.mk hcc
  clear hC0 hcc
  simp only [Int.toNat_zero, List.length_cons, List.length_nil, Nat.zero_add, Nat.reduceAdd] at hx
  rw [show ad.add 0 = ad from by simp [Addr.add]] at hx
  go_wp2_with (go_at_call 36; refine (aw_ints _ A0 c0 Vc.heap.size [4, 6] rfl (Kd.C_alloc HC0.out _) HCC.out (aln _ _)).mono ?_; rintro e W5 ⟨rfl, hd⟩; have HD := Aside0.mk hd; clear hd)
  go_ret
  exact ⟨rfl, below_step (below_alloc HB.out _) HD.out.below⟩
end Go.Proofs.Ythadaajgjloogaa.L

namespace Go.Proofs.Ythadaajgjloogaa.L
open Go.RowKit Go.Shelf Go.Proofs.YthadaajgjloogaaW.PrintWords Go.Proofs.YthadaajgjloogaaW.PrintLast Go.Proofs.YthadaajgjloogaaW.PrintMore
attribute [local go_sem] max2_int min2_int max_two min_two max_three min_three max_four min_four
attribute [local go_sem] Oper.semAt_some

/-! ### list (13) -/
set_option maxHeartbeats 2000000 in
theorem list_calls (A : Option Addr) (c : Nat) (l : List Int) (w : World) (hr : Kd.C (Kd.int .i64) w A l.length l) (hc : l.length ≤ c) :
    Calls Try.prog 13 #[.slice A l.length c] w fun e w' => ∃ v, e = .returned v ∧ Kd.R (Kd.int .i64) 3 w' w.heap.size (fun x => w.heap.size ≤ x) v (l.take 41) ∧ Below w.heap.size w w' := by
  have hmx := Kd.C_max hr
  obtain ⟨j, hj⟩ : ∃ j : Int, (if 41 < (l.length : Int) then 41 else (l.length : Int)) = j := ⟨_, rfl⟩
  have hj0 : 0 ≤ j := by rw [← hj]; split <;> omega
  have hj1 : j ≤ (l.length : Int) := by rw [← hj]; split <;> omega
  have hj41 : j ≤ 41 := by rw [← hj]; split <;> omega
  have HT : Aside0 (l.take j.toNat = l.take 41) := ⟨by
    rw [← hj]; split
    · rfl
    · rw [List.take_of_length_le (by omega), List.take_of_length_le (by omega)]⟩
  obtain ⟨i0, hi0, _, hsz, _⟩ := info_parts info3
  obtain ⟨hcut, hA, _⟩ := print_take_of (P := Try.prog) (Value.int .i64) 0 22 3 .i64 Try.underlying22 hi0 hsz A c l j hj0 hj1 hc
  have HC := Aside0.mk (Kd.C_of_reads (h1 := fun _ => rfl) (hA w (Kd.reads_of_C hr)))
  have HL : Aside0 ((l.take j.toNat).length ≤ 41) := ⟨by rw [List.length_take]; omega⟩
  clear hA hi0 hsz hr hc
  generalize l.take j.toNat = ys at *
  clear hj41
  go_enter Try.func13, Try.ntmps13
  go_wp2_with ((with_reducible refine gate_builtin (b := .append) (xs := #[.tmp 4, .tmp 9]) rfl ?_); at_builtin; refine Kd.R_append_row (Value.int .i64) 0 (h1 := fun _ => rfl) (w0 := w) w.heap.size rfl (.tmp 4) (.tmp 9) 22 3 (.int .i64 0) 8 rfl Try.underlying22 info3 rfl (by omega) (.slice none 0 0) ([] : List Int) ys A ys.length c (fun x => w.heap.size ≤ x) rfl rfl (fun _ h => h) (Kd.R_nil _ _ _ _ _) HC.out (Below.refl _ _) (Nat.le_refl _) (by have := HL.out; simp; omega) ?_; intro v1 w1 hR hB hg hat; have HR1 := Aside0.mk hR; have HB1 := Aside0.mk hB; clear hR hB hg hat)
  go_ret
  exact ⟨v1, rfl, by rw [← HT.out]; exact HR1.out, HB1.out⟩
end Go.Proofs.Ythadaajgjloogaa.L

