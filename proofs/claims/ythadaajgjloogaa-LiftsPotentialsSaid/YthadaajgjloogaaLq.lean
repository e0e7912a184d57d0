import Derived.Test.YthadaajgjloogaaLp
namespace Go.Proofs.Ythadaajgjloogaa.L
open Go.RowKit Go.Shelf Go.Proofs.YthadaajgjloogaaW.PrintWords Go.Proofs.YthadaajgjloogaaW.PrintLast Go.Proofs.YthadaajgjloogaaW.PrintMore
attribute [local go_sem] max2_int min2_int max_two min_two max_three min_three max_four min_four
attribute [local go_sem] Oper.semAt_some

/-! ### cheapest (61) -/
/-- One position more: the best so far, and its number (-1: none). -/
def chStep (f : List Int → Int) (x : Int) (b : List Int × Int) (p : List Int) : List Int × Int :=
  if x ∈ p then (if b.2 < 0 ∨ f p < b.2 then (p, f p) else b) else b
def chF (f : List Int → Int) (x : Int) (l : List (List Int)) : List Int × Int := l.foldl (chStep f x) ([], -1)
theorem chF_snoc (f : List Int → Int) (x : Int) (l : List (List Int)) (p : List Int) : chF f x (l ++ [p]) = chStep f x (chF f x l) p := by simp [chF]

structure Ch (w W : World) (k : Nat) (s0 : List Int) (cv : Value) (mb : Nat) (x : Int) (fv : Value) (b : List Int × Int) : Prop where
  h0 : W.heap[w.heap.size]? = some (.cells (hl k s0 cv) 62 (0, 0))
  h1 : W.heap[w.heap.size + 1]? = some (.cells #[.map (some mb)] 68 (0, 0))
  h2 : W.heap[w.heap.size + 2]? = some (.cells #[.int .i64 x] 3 (0, 0))
  h3 : W.heap[w.heap.size + 3]? = some (.cells #[fv] 82 (0, 0))
  h4 : W.heap[w.heap.size + 4]? = some (.cells (sp []) 60 (0, 0))
  h5 : W.heap[w.heap.size + 5]? = some (.cells (sp b.1) 60 (0, 0))
  h6 : W.heap[w.heap.size + 6]? = some (.cells #[.int .i64 b.2] 3 (0, 0))
  hb : Below w.heap.size w W
theorem Ch.below {w W W2 : World} {k : Nat} {s0 : List Int} {cv : Value} {mb : Nat} {x : Int} {fv : Value} {b : List Int × Int} (h : Ch w W k s0 cv mb x fv b) {B : Nat} (hB : w.heap.size + 7 ≤ B) (hb : Below B W W2) : Ch w W2 k s0 cv mb x fv b :=
  ⟨(hb.block _ (by omega)).trans h.h0, (hb.block _ (by omega)).trans h.h1, (hb.block _ (by omega)).trans h.h2, (hb.block _ (by omega)).trans h.h3, (hb.block _ (by omega)).trans h.h4, (hb.block _ (by omega)).trans h.h5, (hb.block _ (by omega)).trans h.h6, h.hb.trans (hb.mono (by omega))⟩

theorem Ch.set {w W : World} {k : Nat} {s0 : List Int} {cv : Value} {mb : Nat} {x : Int} {fv : Value} {b : List Int × Int} (h : Ch w W k s0 cv mb x fv b) (p : List Int) (n : Int) :
    Ch w ((((W.setCell ⟨w.heap.size + 5, 0, none⟩ (.int .i64 (rd p 0))).setCell ⟨w.heap.size + 5, 1, none⟩ (.int .i64 (rd p 1))).setCell ⟨w.heap.size + 5, 2, none⟩ (.int .i64 (rd p 2))).setCell ⟨w.heap.size + 6, 0, none⟩ (.int .i64 n)) k s0 cv mb x fv (p, n) :=
  ⟨blk_far (blk_far (blk_far (blk_far h.h0 (by simp) _) (by simp) _) (by simp) _) (by simp) _, blk_far (blk_far (blk_far (blk_far h.h1 (by simp) _) (by simp) _) (by simp) _) (by simp) _, blk_far (blk_far (blk_far (blk_far h.h2 (by simp) _) (by simp) _) (by simp) _) (by simp) _, blk_far (blk_far (blk_far (blk_far h.h3 (by simp) _) (by simp) _) (by simp) _) (by simp) _, blk_far (blk_far (blk_far (blk_far h.h4 (by simp) _) (by simp) _) (by simp) _) (by simp) _,
   blk_far (sp_store3 p h.h5) (by simp) _, (blk_set (blk_far (blk_far (blk_far h.h6 (by simp) _) (by simp) _) (by simp) _) 0 _).trans rfl,
   (((h.hb.setCell (show w.heap.size ≤ w.heap.size + 5 by omega) _).setCell (show w.heap.size ≤ w.heap.size + 5 by omega) _).setCell (show w.heap.size ≤ w.heap.size + 5 by omega) _).setCell (show w.heap.size ≤ w.heap.size + 6 by omega) _⟩
theorem Ch.keep {w W : World} {p : List Int} {n : Int} (q : Nat) (h : q ≠ w.heap.size + 5 ∧ q ≠ w.heap.size + 6) :
    ((((W.setCell ⟨w.heap.size + 5, 0, none⟩ (.int .i64 (rd p 0))).setCell ⟨w.heap.size + 5, 1, none⟩ (.int .i64 (rd p 1))).setCell ⟨w.heap.size + 5, 2, none⟩ (.int .i64 (rd p 2))).setCell ⟨w.heap.size + 6, 0, none⟩ (.int .i64 n)).heap[q]? = W.heap[q]? :=
  (Below.heap_setCell _ _ _ q h.2).trans ((Below.heap_setCell _ _ _ q h.1).trans ((Below.heap_setCell _ _ _ q h.1).trans (Below.heap_setCell _ _ _ q h.1)))

set_option maxHeartbeats 8000000 in
theorem cheapest_calls (k : Nat) (s0 : List Int) (cv : Value) (mb : Nat) (l : List (List Int × Int)) (n : Nat) (x : Int) (g : Nat) (first caps : Array Value) (f fr : List Int → Int) (w : World)
    (hcf : ∀ (args : Array Value) (W : World), (callFunc g args).run Try.prog W = .ok (.enter g args) W)
    (hk3 : k ≤ 3) (hm : w.heap[mb]? = some (.map (entsOf l) n)) (hf : ∀ p ∈ allP k, lookL l p = f p) (hfb : ∀ p ∈ allP k, 0 ≤ f p ∧ f p ≤ 1000000) (hrb : ∀ p ∈ allP k, 0 ≤ fr p ∧ fr p ≤ 1000000)
    (hfr : ∀ p ∈ allP k, ∀ W, Below w.heap.size w W → Calls Try.prog g (first.push (.agg (sp p)) ++ caps) W fun e W' => e = .returned (.int .i64 (fr p)) ∧ Below W.heap.size W W') :
    Calls Try.prog 61 #[.agg (hl k s0 cv), .map (some mb), .int .i64 x, .func (.func g) first caps] w fun e w' => e = .returned (.agg (sp (chF (fun p => f p + fr p) x (allP k)).1)) ∧ Below w.heap.size w w' := by
  have HM := Aside0.mk hm
  have HF := Aside0.mk hf
  have HFB := Aside0.mk hfb
  have HRB := Aside0.mk hrb
  have HFR := Aside0.mk hfr
  clear hm hf hfb hrb hfr
  refine callsIn_wide (n := 3).1 ?_
  refine callsIn_of_wp_marks Try.func61 rfl trivial ?_
  simp only [Try.ntmps61, List.size_toArray, List.length_cons, List.length_nil, Nat.reduceAdd, Nat.reduceSub, Array.replicate_succ, Array.replicate_zero, List.push_toArray, List.append_toArray, List.nil_append, List.cons_append]
  gi_wp2_with (refine ⟨trivial, ?_⟩; gi_at_call 82; refine callsIn_wide.2 ((all_calls k s0 cv _).mono ?_); rintro e w' ⟨rfl, rfl⟩)
  refine wpcIn_world (fun W => Aside0 (Ch w W k s0 cv mb x (.func (.func g) first caps) ([], -1)) ∧ Aside0 (W.heap[w.heap.size + 7]? = some (.cells (hl k s0 cv) 62 (0, 0))) ∧ Aside0 (W.heap.size = w.heap.size + 8))
    ⟨⟨alo (alo (alo (alo (alo (alo (alo (aln _ _) _) _) _) _) _) _) _, alo (alo (alo (alo (alo (alo (aln' _ _ (by simp)) _) _) _) _) _) _, alo (alo (alo (alo (alo (aln' _ _ (by simp)) _) _) _) _) _, alo (alo (alo (alo (aln' _ _ (by simp)) _) _) _) _, alo (alo (alo (aln' _ _ (by simp)) _) _) _, alo (alo (aln' _ _ (by simp)) _) _, alo (aln' _ _ (by simp)) _,
      below_alloc (below_alloc (below_alloc (below_alloc (below_alloc (below_alloc (below_alloc (below_alloc (Below.refl _ _) _) _) _) _) _) _) _) _⟩, ⟨aln' _ _ (by simp)⟩, ⟨by simp⟩⟩ ?_
  rintro W ⟨HC, HH, HZ⟩
  refine range_all 3 3 (w.heap.size + 7) k s0 cv rfl HH.out hk3 (fun pre V => Ch w V k s0 cv mb x (.func (.func g) first caps) (chF (fun p => f p + fr p) x pre)) ?_ HC.out ?_ ?_
  · intro pre V V' h hb
    exact h.below (by rw [HZ.out]; omega) hb
  · intro pre p V hi hpre hh hsz
    have hsz' := hsz
    rw [HZ.out] at hsz
    have HI := Aside0.mk hi
    have hpa := (fresh_of_prefix hpre).1
    have HPX := Aside0.mk (allP_pos hpa)
    have HPA := Aside0.mk hpa
    have HSN : Aside0 (chF (fun p => f p + fr p) x (pre ++ [p]) = chStep (fun p => f p + fr p) x (chF (fun p => f p + fr p) x pre) p) := ⟨chF_snoc _ _ _ _⟩
    generalize chF (fun p => f p + fr p) x pre = bst at *
    obtain ⟨f0, f1⟩ := HFB.out p hpa
    obtain ⟨g0, g1⟩ := HRB.out p hpa
    clear hi hpre hh hpa
    rw [spv p]
    gi_wp2
    refine ⟨fun q hq => ?_, fun W₂ hSB => ?_⟩
    · rcases hq with h | h
      · exact Below.heap_alloc V _ q (by omega)
      · exact Below.heap_alloc V _ q (by have := h.2; omega)
    have HI2 : Aside0 (Ch w W₂ k s0 cv mb x (.func (.func g) first caps) bst) := ⟨(HI.out.below (B := V.heap.size) (by omega) ((Below.refl _ _).alloc (Nat.le_refl _) (.cells (sp p) 60))).below (B := W.heap.size + 1) (by rw [HZ.out]; omega) (hSB.below (Nat.le_refl _))⟩
    have HX2 : Aside0 (W₂.heap[V.heap.size]? = some (.cells (sp p) 60 (0, 0))) := ⟨(hSB.same _ (by have := HZ.out; omega)).trans (aln _ _)⟩
    have HZ2 : Aside0 (W₂.heap.size = V.heap.size + 1) := ⟨by rw [hSB.size]; simp⟩
    clear hSB HI
    obtain ⟨⟨c0, c1, c2, c3, c4⟩, _⟩ := hl_read HI2.out.h0
    obtain ⟨x0, x1, x2, _, _, _⟩ := sp_read HX2.out
    have m0 := blk_cell HI2.out.h2 0
    simp only [List.getElem?_toArray, List.getElem?_cons_zero] at m0
    by_cases hmem : x ∈ p
    · have HMM := Aside0.mk hmem
      have HM1 := Aside0.mk (decide_eq_true hmem)
      clear hmem
      gi_wp2_with (refine ⟨trivial, ?_⟩; gi_at_call 57; refine CallsIn.inRound (W.heap.size + 1) (callsIn_wide.2 ((has_calls k s0 cv p x _ hk3 HPX.out.len).mono ?_)); rintro e W3 ⟨rfl, hb⟩; rw [HM1.out]; have HI3 : Aside0 (Ch w W3 k s0 cv mb x (.func (.func g) first caps) bst) := ⟨HI2.out.below (B := W₂.heap.size) (by have := HZ2.out; omega) hb⟩; have HX3 : Aside0 (W3.heap[V.heap.size]? = some (.cells (sp p) 60 (0, 0))) := ⟨(hb.block _ (blk_lt HX2.out)).trans HX2.out⟩; have HB3 : Aside0 (Below W₂.heap.size W₂ W3) := ⟨hb⟩; clear hb)
      have HM3 : Aside0 (W3.heap[mb]? = some (.map (entsOf l) n)) := ⟨(HI3.out.hb.block _ (blk_lt HM.out)).trans HM.out⟩
      refine wpIn_region_held (fun U => U.heap[w.heap.size + 1]? = some (.cells #[.map (some mb)] 68 (0, 0)) ∧ U.heap[V.heap.size]? = some (.cells (sp p) 60 (0, 0)) ∧ U.heap[w.heap.size + 3]? = some (.cells #[.func (.func g) first caps] 82 (0, 0)) ∧ U.heap[mb]? = some (.map (entsOf l) n)) (by kernel_rfl) (by kernel_rfl) ?_ ?_
      · intro a' w' h
        have h2 : Exit.outgrown = Exit.normal ∧ _ := h
        cases h2.1
      refine wpAnyH_take (i := 0) (v := .map (some mb)) rfl (by kernel_rfl) (by kernel_rfl) (by kernel_rfl) (fun _ _ _ h => h) (Or.inl ⟨by rfl, ?_⟩) ⟨HI3.out.h1, HX3.out, HI3.out.h3, HM3.out⟩ ?_
      · rintro U ⟨h1, h2, h3, h4⟩
        have m0 := blk_cell h1 0
        simp only [List.getElem?_toArray, List.getElem?_cons_zero] at m0
        go_simp
      refine wpAnyH_take (i := 1) (v := .agg #[.int .i64 (rd p 0), .int .i64 (rd p 1), .int .i64 (rd p 2)]) rfl (by kernel_rfl) (by kernel_rfl) (by kernel_rfl) (fun _ _ _ h => h) (Or.inl ⟨by rfl, ?_⟩) ⟨HI3.out.h1, HX3.out, HI3.out.h3, HM3.out⟩ ?_
      · rintro U ⟨h1, h2, h3, h4⟩
        obtain ⟨x0, x1, x2, _, _, _⟩ := sp_read h2
        go_simp
      refine wpAnyH_take (i := 2) (v := .int .i64 (f p)) rfl (by kernel_rfl) (by kernel_rfl) (by kernel_rfl) (fun _ _ _ h => h) (Or.inl ⟨by rfl, ?_⟩) ⟨HI3.out.h1, HX3.out, HI3.out.h3, HM3.out⟩ ?_
      · rintro U ⟨h1, h2, h3, h4⟩
        have hlk : (Instr.lookup 68 (.map (some mb)) (.agg #[.int .i64 (rd p 0), .int .i64 (rd p 1), .int .i64 (rd p 2)]) false).run Try.prog U = .ok (.int .i64 (lookL l p)) U := lookup_run l n mb p U h4
        rw [HF.out p HPA.out] at hlk
        go_simp
      refine wpAnyH_take (i := 3) (v := .func (.func g) first caps) rfl (by kernel_rfl) (by kernel_rfl) (by kernel_rfl) (fun _ _ _ h => h) (Or.inl ⟨by rfl, ?_⟩) ⟨HI3.out.h1, HX3.out, HI3.out.h3, HM3.out⟩ ?_
      · rintro U ⟨h1, h2, h3, h4⟩
        have m0 := blk_cell h3 0
        simp only [List.getElem?_toArray, List.getElem?_cons_zero] at m0
        go_simp
      refine wpAnyH_take (i := 4) (v := .agg #[.int .i64 (rd p 0), .int .i64 (rd p 1), .int .i64 (rd p 2)]) rfl (by kernel_rfl) (by kernel_rfl) (by kernel_rfl) (fun _ _ _ h => h) (Or.inl ⟨by rfl, ?_⟩) ⟨HI3.out.h1, HX3.out, HI3.out.h3, HM3.out⟩ ?_
      · rintro U ⟨h1, h2, h3, h4⟩
        obtain ⟨x0, x1, x2, _, _, _⟩ := sp_read h2
        go_simp
      refine wpAnyH_ready (rs := [5]) (by kernel_rfl) (by simp) ?_
      refine AllReadyH.cons rfl (fun K hK => ?_) AllReadyH.nil
      go_simp
      refine (HFR.out p HPA.out _ (HI3.out.hb.trans (below_drew1 (Below.refl _ _)))).mono ?_
      rintro e W4 ⟨rfl, hb0⟩
      have hb : Below W3.heap.size W3 W4 := below_step (below_drew1 (Below.refl _ _)) hb0
      clear hb0
      have HI4 : Aside0 (Ch w W4 k s0 cv mb x (.func (.func g) first caps) bst) := ⟨HI3.out.below (B := W3.heap.size) (by have := HI3.out.h6; have := blk_lt this; omega) hb⟩
      have HX4 : Aside0 (W4.heap[V.heap.size]? = some (.cells (sp p) 60 (0, 0))) := ⟨(hb.block _ (blk_lt HX3.out)).trans HX3.out⟩
      have HM4 : Aside0 (W4.heap[mb]? = some (.map (entsOf l) n)) := ⟨(hb.block _ (blk_lt HM3.out)).trans HM3.out⟩
      have HB4 : Aside0 (Below W3.heap.size W3 W4) := ⟨hb⟩
      refine hK _ _ ⟨HI4.out.h1, HX4.out, HI4.out.h3, HM4.out⟩ (fun _ => ?_)
      clear hb hK K
      refine wpAnyH_take (i := 6) (v := .int .i64 (f p + fr p)) rfl (by kernel_rfl) (by kernel_rfl) (by kernel_rfl) (fun _ _ _ h => h) (Or.inl ⟨by rfl, ?_⟩) ⟨HI4.out.h1, HX4.out, HI4.out.h3, HM4.out⟩ ?_
      · rintro U ⟨h1, h2, h3, h4⟩
        go_simp
        exact IntWalk.i64_in _ (by omega)
      refine wpAnyH_take (i := 7) (v := .int .i64 (f p + fr p)) rfl (by kernel_rfl) (by kernel_rfl) (by kernel_rfl) (fun _ _ _ h => h) (Or.inl ⟨by rfl, ?_⟩) ⟨HI4.out.h1, HX4.out, HI4.out.h3, HM4.out⟩ ?_
      · rintro U ⟨h1, h2, h3, h4⟩
        go_simp
      refine wpAnyH_done (by kernel_rfl) ?_ _
      have l0 := blk_cell HI4.out.h6 0
      simp only [List.getElem?_toArray, List.getElem?_cons_zero] at l0
      obtain ⟨y0, y1, y2, _, _, _⟩ := sp_read HX4.out
      obtain ⟨r0, r1, r2, e0, e1, e2⟩ := sp_read HI4.out.h5
      have l1 := blk_frozen HI4.out.h6 0
      have hz := HZ.out
      have hz2 := HZ2.out
      have hwK : 0 ≤ f p + fr p ∧ f p + fr p ≤ 2000000 := by omega
      have HKR : Aside0 (∀ q, (q = w.heap.size + 7 ∨ (W.heap.size ≤ q ∧ q < W.heap.size + 5)) → W4.heap[q]? = W₂.heap[q]?) := ⟨fun q hq => (HB4.out.block q (by have := HB3.out.size; rcases hq with h | h <;> omega)).trans (HB3.out.block q (by rcases hq with h | h <;> omega))⟩
      by_cases hn : bst.2 < 0
      · have hn' := decide_eq_true hn
        have HS2 : Aside0 (chStep (fun p => f p + fr p) x bst p = (p, f p + fr p)) := ⟨by simp [chStep, HMM.out, hn]⟩
        clear hn
        gi_wp2
        exact ⟨fun q hq => (Ch.keep q (by rcases hq with h | h <;> omega)).trans (HKR.out q (by rcases hq with h | h <;> omega)), by rw [HSN.out, HS2.out]; exact HI4.out.set p _⟩
      · have hn' := decide_eq_false hn
        by_cases hlow : f p + fr p < bst.2
        · have HS2 : Aside0 (chStep (fun p => f p + fr p) x bst p = (p, f p + fr p)) := ⟨by simp [chStep, HMM.out, hlow]⟩
          have hl' := decide_eq_true hlow
          clear hn hlow
          gi_wp2
          exact ⟨fun q hq => (Ch.keep q (by rcases hq with h | h <;> omega)).trans (HKR.out q (by rcases hq with h | h <;> omega)), by rw [HSN.out, HS2.out]; exact HI4.out.set p _⟩
        · have HS2 : Aside0 (chStep (fun p => f p + fr p) x bst p = bst) := ⟨by simp [chStep, HMM.out, hlow, hn]⟩
          have hl' := decide_eq_false hlow
          clear hn hlow
          gi_wp2
          exact ⟨fun q hq => HKR.out q (by rcases hq with h | h <;> omega), by rw [HSN.out, HS2.out]; exact HI4.out⟩
    · have HM1 := Aside0.mk (decide_eq_false hmem)
      have HS2 : Aside0 (chStep (fun p => f p + fr p) x bst p = bst) := ⟨by simp [chStep, hmem]⟩
      clear hmem
      gi_wp2_with (refine ⟨trivial, ?_⟩; gi_at_call 57; refine CallsIn.inRound (W.heap.size + 1) (callsIn_wide.2 ((has_calls k s0 cv p x _ hk3 HPX.out.len).mono ?_)); rintro e W3 ⟨rfl, hb⟩; rw [HM1.out]; have HI3 : Aside0 (Ch w W3 k s0 cv mb x (.func (.func g) first caps) bst) := ⟨HI2.out.below (B := W₂.heap.size) (by have := HZ2.out; omega) hb⟩; have HX3 : Aside0 (W3.heap[V.heap.size]? = some (.cells (sp p) 60 (0, 0))) := ⟨(hb.block _ (blk_lt HX2.out)).trans HX2.out⟩; have HB3 : Aside0 (Below W₂.heap.size W₂ W3) := ⟨hb⟩; clear hb)
      have hz := HZ2.out
      have hz' := HZ.out
      exact ⟨fun q hq => HB3.out.block q (by rcases hq with h | h <;> omega), by rw [HSN.out, HS2.out]; exact HI3.out⟩
  · intro W' hi hd hsz
    have HI := Aside0.mk hi
    have HDD := Aside0.mk hd
    obtain ⟨r0, r1, r2, e0, e1, e2⟩ := sp_read HI.out.h5
    obtain ⟨x0, x1, x2, d0, d1, d2⟩ := sp_read HI.out.h4
    clear hi hd
    gi_wp2
    have hne : W.heap.size ≠ w.heap.size + 4 := by have := HZ.out; omega
    refine ⟨by simp, .inl ⟨_, _, rfl, run_takeDeferred (((Below.heap_setCell _ _ _ _ hne).trans ((Below.heap_setCell _ _ _ _ hne).trans (Below.heap_setCell _ _ _ _ hne))).trans HDD.out), ?_⟩⟩
    refine ⟨_, results_single rfl (.cell (w.heap.size + 4) 60 (sp _) (0, 0) _ rfl ?_ Try.underlying60 rfl size60 .nil), rfl, ?_⟩
    · exact (World.putObj_heap_other (Ne.symm hne)).trans (sp_store3 _ HI.out.h4)
    · exact (((HI.out.hb.setCell (show w.heap.size ≤ w.heap.size + 4 by omega) _).setCell (show w.heap.size ≤ w.heap.size + 4 by omega) _).setCell (show w.heap.size ≤ w.heap.size + 4 by omega) _).trans ((sameBut_put _ _ _).below (by have := HZ.out; omega))
end Go.Proofs.Ythadaajgjloogaa.L
