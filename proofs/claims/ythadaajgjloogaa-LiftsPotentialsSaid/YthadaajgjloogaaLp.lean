import Derived.Test.YthadaajgjloogaaLo
import Derived.Laws.EntriesVeiled
import Derived.Maps.OwnIn
import Derived.Stop.RegionWithIn
import Derived.Deep.RegionHeld3
namespace Go.Proofs.Ythadaajgjloogaa.L
open Go.RowKit Go.Shelf Go.Proofs.YthadaajgjloogaaW.PrintWords Go.Proofs.YthadaajgjloogaaW.PrintLast Go.Proofs.YthadaajgjloogaaW.PrintMore
attribute [local go_sem] max2_int min2_int max_two min_two max_three min_three max_four min_four
attribute [local go_sem] Oper.semAt_some

/-! ### what gen holds -/
theorem gen_mem : ∀ (d : Nat) (p : List Int) (f : Nat) (x : List Int), x ∈ gen d p f → ∃ r, x = p ++ r ∧ r.length = d ∧ ∀ y ∈ r, 0 ≤ y ∧ y ≤ 30
  | 0, p, f, x, h => by
    simp only [gen, List.mem_singleton] at h
    exact ⟨[], by simp [h], rfl, by simp⟩
  | d + 1, p, f, x, h => by
    simp only [gen, List.mem_flatMap, List.mem_range] at h
    obtain ⟨i, hi, hx⟩ := h
    obtain ⟨r, rfl, hr, hb⟩ := gen_mem d _ _ x hx
    refine ⟨((f + i : Nat) : Int) :: r, by simp, by simp [hr], fun y hy => ?_⟩
    rcases List.mem_cons.1 hy with rfl | hy
    · omega
    · exact hb y hy
theorem allP_pos {k : Nat} {x : List Int} (h : x ∈ allP k) : Pos k x := by
  obtain ⟨r, rfl, hr, hb⟩ := gen_mem k [] 0 x h
  exact ⟨by simpa using hr, by simpa using hb⟩
theorem gen_nodup : ∀ (d : Nat) (p : List Int) (f : Nat), (gen d p f).Nodup
  | 0, p, f => by simp [gen]
  | d + 1, p, f => by
    simp only [gen]
    unfold List.Nodup
    rw [List.pairwise_flatMap]
    refine ⟨fun i _ => gen_nodup d _ _, ?_⟩
    refine (List.nodup_range (n := 31 - f)).imp ?_
    intro i j hij x hx y hy hxy
    subst hxy
    obtain ⟨r, e1, _, _⟩ := gen_mem d _ _ x hx
    obtain ⟨r', e2, _, _⟩ := gen_mem d _ _ x hy
    rw [e1] at e2
    simp only [List.append_assoc, List.cons_append, List.nil_append, List.append_cancel_left_eq, List.cons.injEq] at e2
    omega
theorem allP_nodup (k : Nat) : (allP k).Nodup := gen_nodup k [] 0
theorem fresh_of_prefix {k : Nat} {pre : List (List Int)} {x : List Int} (h : (pre ++ [x]) <+: allP k) : x ∈ allP k ∧ (∀ y ∈ pre, y ∈ allP k) ∧ x ∉ pre := by
  have hn := List.Nodup.sublist h.sublist (allP_nodup k)
  refine ⟨h.subset (by simp), fun y hy => h.subset (by simp [hy]), fun hx => ?_⟩
  rw [List.nodup_append] at hn
  exact hn.2.2 x hx x (by simp) rfl

/-- The works without calls, of the positions in l. -/
def firstL (s : List Int) (l : List (List Int)) : List (List Int × Int) := l.map fun p => (p, distF s p)
theorem firstL_none {k : Nat} (hk : k ≤ 3) (s : List Int) {pre : List (List Int)} {x : List Int} (h : (pre ++ [x]) <+: allP k) : findL x (firstL s pre) 0 = none := by
  obtain ⟨hx, hp, hn⟩ := fresh_of_prefix h
  refine findL_none _ _ fun q hq => ?_
  obtain ⟨y, hy, rfl⟩ := List.mem_map.1 hq
  cases hb : eq3 x y
  · rfl
  · exact absurd ((eq3_iff (allP_pos hx).len (allP_pos (hp y hy)).len hk).1 hb) (fun e => hn (e ▸ hy))

structure Fw (w W : World) (mb k : Nat) (s : List Int) (cv : Value) (l : List (List Int × Int)) : Prop where
  h1 : W.heap[w.heap.size]? = some (.cells (hl k s cv) 62 (0, 0))
  h2 : W.heap[mb]? = some (.map (entsOf l) l.length)
  h3 : W.heap[w.heap.size + 2]? = some (.cells #[.map (some mb)] 68 (0, 0))
  h4 : mb = w.heap.size + 1
  hb : Below w.heap.size w W
theorem Fw.below {w W W2 : World} {mb k : Nat} {s : List Int} {cv : Value} {l : List (List Int × Int)} (h : Fw w W mb k s cv l) {B : Nat} (hB : w.heap.size + 3 ≤ B) (hb : Below B W W2) : Fw w W2 mb k s cv l :=
  ⟨(hb.block _ (by omega)).trans h.h1, (hb.block _ (by have := h.h4; omega)).trans h.h2, (hb.block _ (by omega)).trans h.h3, h.h4, h.hb.trans (hb.mono (by omega))⟩

theorem all_calls (k : Nat) (s : List Int) (cv : Value) (w : World) : Calls Try.prog 82 #[.agg (hl k s cv)] w fun e w' => e = .returned (.func (.func 103) #[] #[.pointer (some ⟨w.heap.size, 0, none⟩)]) ∧ w' = w.alloc (.cells (hl k s cv) 62) := by
  go_enter Try.func82, Try.ntmps82
  go_wp2
  go_ret
  exact ⟨rfl, rfl⟩

/-! ### a region that draws its order, in a round: by the laws for a plain frame -/
def noDefer (ops : Array Oper) : Bool := ops.all fun o => match o.op with | .defer _ => false | _ => true
theorem noDefer_at {ops : Array Oper} (h : noDefer ops = true) {i : Nat} {o : Oper} (hi : ops[i]? = some o) (c : Call) : o.op ≠ .defer c := by
  intro e
  have := (Array.all_eq_true'.1 h) o (Array.mem_of_getElem? hi)
  simp [e] at this
theorem wpAnyIn_of_any {l n : Nat} {P : Program} {md : Region.Mode} {ops : Array Oper} {Q : Exit → Act → World → Prop} (hd : noDefer ops = true) (hQ : ∀ a w, ¬ Q .outgrown a w) :
    ∀ (fuel : Nat) (listed : Array Bool) (a : Act) (w : World), wpAny P md ops Q fuel listed a w → wpAnyIn (Fence.wide.inRound l) n P md ops Q fuel listed a w
  | 0, _, _, _, h => h
  | fuel + 1, listed, a, w, h => ⟨h.1, fun i hi => by
    have h1 := h.2 i hi
    have ih := wpAnyIn_of_any (l := l) (n := n) (P := P) (md := md) hd hQ fuel (listed.setIfInBounds i true)
    unfold wpOp at h1
    unfold wpOpIn
    cases ho : ops[i]? with
    | none => rw [ho] at h1; exact ih _ _ h1
    | some o =>
      rw [ho] at h1
      simp only at h1 ⊢
      split
      · rename_i hw
        rw [if_pos hw] at h1
        rcases h1 with h1 | ⟨_, a', w', hx⟩
        · refine ⟨fun _ _ => trivial, ?_⟩
          rw [show (Fence.wide.inRound l).round = some l from rfl, Oper.semAt_some l _ _ (noDefer_at hd ho)]
          unfold Oper.wp at h1
          generalize (execOp a.eval o).run P w = r at h1
          cases r with
          | ok nx w' =>
            cases nx with
            | value v => exact ih _ _ h1
            | skip => exact ih _ _ h1
            | defer d => exact ih _ _ h1
            | enter f args =>
              refine ⟨fun h => (by cases h), CallsIn.inRound l (callsIn_wide.2 (Calls.mono h1 fun e w'' he => ?_))⟩
              cases e with
              | returned v => exact ih _ _ he
              | panicked c => exact he
              | outgrown => exact he
            | row row args =>
              refine ⟨fun h => (by cases h), fun c cs _ => ?_⟩
              obtain ⟨v, w'', hr, hs⟩ := h1 c cs
              exact ⟨v, w'', ih _ _ hr, stepsIn_wide.2 hs⟩
            | _ => exact (h1 : False).elim
          | halt x w' => cases x <;> exact h1
        · exact absurd hx (hQ a' w')
      · rename_i hw
        rw [if_neg hw] at h1
        exact ⟨fun _ _ => trivial, ih _ _ h1⟩⟩
theorem wpIn_region_held {l n id : Nat} {P : Program} {ops : Array Oper} {Q : Exit → Act → World → Prop} {a : Act} {w : World} (S : World → Prop) (hm : P.follows .mixedOrders = true) (hd : noDefer ops = true) (hQ : ∀ a w, ¬ Q .outgrown a w)
    (h : wpAnyH P .any ops Q S ops.size (Array.replicate ops.size false) a w.drew) : (Code.region id ops true).wpIn (Fence.wide.inRound l) n P Q a w :=
  wpIn_region_any hm (wpAnyIn_of_any hd hQ _ _ _ _ (wpAny_of_held _ _ _ _ h))
theorem wpcIn_world {F : Fence} {n : Nat} {P : Program} {c : Code} {Q : Exit → Act → World → Prop} {a : Act} {w1 : World} (X : World → Prop) (hX : X w1) (h : ∀ W, X W → c.wpIn F n P Q a W) : c.wpIn F n P Q a w1 := h w1 hX

set_option maxHeartbeats 4000000 in
theorem first_calls (k : Nat) (s : List Int) (cv : Value) (w : World) (hk3 : k ≤ 3) (hs : Pos k s) :
    Calls Try.prog 49 #[.agg (hl k s cv)] w fun e w' => e = .returned (.map (some (w.heap.size + 1))) ∧ w'.heap[w.heap.size + 1]? = some (.map (entsOf (firstL s (allP k))) (firstL s (allP k)).length) ∧ Below w.heap.size w w' := by
  have hmm := @run_makeMap Try.prog
  refine callsIn_wide (n := 3).1 ?_
  refine callsIn_of_wp_marks Try.func49 rfl trivial ?_
  simp only [Try.ntmps49, List.size_toArray, List.length_cons, List.length_nil, Nat.reduceAdd, Nat.reduceSub, Array.replicate_succ, Array.replicate_zero, List.push_toArray, List.append_toArray, List.nil_append, List.cons_append]
  gi_wp2_with (refine ⟨trivial, ?_⟩; gi_at_call 82; refine callsIn_wide.2 ((all_calls k s cv _).mono ?_); rintro e w' ⟨rfl, rfl⟩)
  refine wpcIn_world (fun W => Aside0 (Fw w W (w.heap.size + 1) k s cv []) ∧ Aside0 (W.heap[w.heap.size + 3]? = some (.cells (hl k s cv) 62 (0, 0))) ∧ Aside0 (W.heap.size = w.heap.size + 4)) ⟨⟨alo (alo (alo (aln _ _) _) _) _, alo (alo (aln' _ _ (by simp)) _) _, alo (aln' _ _ (by simp)) _, rfl, ((((Below.refl _ _).alloc (Nat.le_refl _) _).alloc (by simp) _).alloc (by simp; omega) _).alloc (by simp; omega) _⟩, ⟨aln' _ _ (by simp)⟩, ⟨by simp⟩⟩ ?_
  rintro W ⟨HF, HH, HZ⟩
  refine range_all 3 3 (w.heap.size + 3) k s cv rfl HH.out hk3 (fun pre V => Fw w V (w.heap.size + 1) k s cv (firstL s pre)) ?_ HF.out ?_ ?_
  · intro pre V V' h hb
    exact h.below (by rw [HZ.out]; omega) hb
  · intro pre x V hi hpre hh hsz
    have hsz' := hsz
    rw [HZ.out] at hsz
    have HI := Aside0.mk hi
    have HPX := Aside0.mk (allP_pos (fresh_of_prefix hpre).1)
    have HFN := Aside0.mk (firstL_none hk3 s hpre)
    have HHH := Aside0.mk hh
    clear hi hpre hh
    rw [spv x]
    gi_wp2
    refine ⟨fun q hq => ?_, fun W₂ hSB => ?_⟩
    · rcases hq with h | h
      · exact Below.heap_alloc V _ q (by omega)
      · exact Below.heap_alloc V _ q (by have := h.2; omega)
    have hBA : Below w.heap.size w (V.alloc (.cells (sp x) 60)) := below_alloc HI.out.hb _
    have HI2 : Aside0 (Fw w W₂ (w.heap.size + 1) k s cv (firstL s pre)) := ⟨(HI.out.below (B := V.heap.size) (by omega) ((Below.refl _ _).alloc (Nat.le_refl _) (.cells (sp x) 60))).below (B := W.heap.size + 1) (by rw [HZ.out]; omega) (hSB.below (Nat.le_refl _))⟩
    have HX2 : Aside0 (W₂.heap[V.heap.size]? = some (.cells (sp x) 60 (0, 0))) := ⟨(hSB.same _ (by have := HZ.out; omega)).trans (aln _ _)⟩
    have HZ2 := Aside0.mk hSB.size
    clear hBA hSB
    obtain ⟨⟨c0, c1, c2, c3, c4⟩, _⟩ := hl_read HI2.out.h1
    obtain ⟨x0, x1, x2, _, _, _⟩ := sp_read HX2.out
    have m0 := blk_cell HI2.out.h3 0
    simp only [List.getElem?_toArray, List.getElem?_cons_zero] at m0
    gi_wp2
    refine wpIn_region_held (fun U => U.heap[w.heap.size]? = some (.cells (hl k s cv) 62 (0, 0)) ∧ U.heap[V.heap.size]? = some (.cells (sp x) 60 (0, 0)) ∧ U.heap[w.heap.size + 2]? = some (.cells #[.map (some (w.heap.size + 1))] 68 (0, 0))) (by kernel_rfl) (by kernel_rfl) ?_ ?_
    · intro a' w' h
      have h2 : Exit.outgrown = Exit.normal ∧ _ := h
      cases h2.1
    refine wpAnyH_take (i := 0) (v := .map (some (w.heap.size + 1))) rfl (by kernel_rfl) (by kernel_rfl) (by kernel_rfl) (fun _ _ _ h => h) (Or.inl ⟨by rfl, ?_⟩) ⟨HI2.out.h1, HX2.out, HI2.out.h3⟩ ?_
    · rintro U ⟨h1, h2, h3⟩
      have m0 := blk_cell h3 0
      simp only [List.getElem?_toArray, List.getElem?_cons_zero] at m0
      go_simp
    refine wpAnyH_take (i := 1) (v := .agg #[.int .i64 (rd x 0), .int .i64 (rd x 1), .int .i64 (rd x 2)]) rfl (by kernel_rfl) (by kernel_rfl) (by kernel_rfl) (fun _ _ _ h => h) (Or.inl ⟨by rfl, ?_⟩) ⟨HI2.out.h1, HX2.out, HI2.out.h3⟩ ?_
    · rintro U ⟨h1, h2, h3⟩
      obtain ⟨x0, x1, x2, _, _, _⟩ := sp_read h2
      go_simp
    refine wpAnyH_take (i := 2) (v := .agg #[.int .i64 k, .int .i64 (rd s 0), .int .i64 (rd s 1), .int .i64 (rd s 2), cv]) rfl (by kernel_rfl) (by kernel_rfl) (by kernel_rfl) (fun _ _ _ h => h) (Or.inl ⟨by rfl, ?_⟩) ⟨HI2.out.h1, HX2.out, HI2.out.h3⟩ ?_
    · rintro U ⟨h1, h2, h3⟩
      obtain ⟨⟨c0, c1, c2, c3, c4⟩, _⟩ := hl_read h1
      go_simp
    refine wpAnyH_take (i := 3) (v := .pointer (some ⟨w.heap.size, 1, none⟩)) rfl (by kernel_rfl) (by kernel_rfl) (by kernel_rfl) (fun _ _ _ h => h) (Or.inl ⟨by rfl, ?_⟩) ⟨HI2.out.h1, HX2.out, HI2.out.h3⟩ ?_
    · rintro U ⟨h1, h2, h3⟩
      go_simp
    refine wpAnyH_take (i := 4) (v := .agg #[.int .i64 (rd s 0), .int .i64 (rd s 1), .int .i64 (rd s 2)]) rfl (by kernel_rfl) (by kernel_rfl) (by kernel_rfl) (fun _ _ _ h => h) (Or.inl ⟨by rfl, ?_⟩) ⟨HI2.out.h1, HX2.out, HI2.out.h3⟩ ?_
    · rintro U ⟨h1, h2, h3⟩
      obtain ⟨⟨c0, c1, c2, c3, c4⟩, _⟩ := hl_read h1
      go_simp
    refine wpAnyH_take (i := 5) (v := .agg #[.int .i64 (rd x 0), .int .i64 (rd x 1), .int .i64 (rd x 2)]) rfl (by kernel_rfl) (by kernel_rfl) (by kernel_rfl) (fun _ _ _ h => h) (Or.inl ⟨by rfl, ?_⟩) ⟨HI2.out.h1, HX2.out, HI2.out.h3⟩ ?_
    · rintro U ⟨h1, h2, h3⟩
      obtain ⟨x0, x1, x2, _, _, _⟩ := sp_read h2
      go_simp
    refine wpAnyH_ready (rs := [6]) (by kernel_rfl) (by simp) ?_
    refine AllReadyH.cons rfl (fun K hK => ?_) ?_
    · go_simp
      refine (distance_calls k s cv s x _ hk3 hs.fl HPX.out.fl).mono ?_
      rintro e W3 ⟨rfl, hb0⟩
      have hb : Below W₂.heap.size W₂ W3 := below_step (below_drew1 (Below.refl _ _)) hb0
      clear hb0
      have HI3 : Aside0 (Fw w W3 (w.heap.size + 1) k s cv (firstL s pre)) := ⟨HI2.out.below (B := W₂.heap.size) (by have := HI2.out.h3; have := blk_lt this; omega) hb⟩
      have HX3 : Aside0 (W3.heap[V.heap.size]? = some (.cells (sp x) 60 (0, 0))) := ⟨(hb.block _ (blk_lt HX2.out)).trans HX2.out⟩
      have HKB : Aside0 (Below W₂.heap.size W₂ W3) := ⟨hb⟩
      have HD : Aside0 (sumI (dl s x k) = distF s x) := ⟨by unfold distF; rw [hs.len]⟩
      rw [HD.out]
      have hup : (Instr.mapUpdate 68 (.map (some (w.heap.size + 1))) (.agg #[.int .i64 (rd x 0), .int .i64 (rd x 1), .int .i64 (rd x 2)]) (.int .i64 (distF s x))).run Try.prog W3 = .ok () (W3.putObj (w.heap.size + 1) (.map (entsOf (firstL s (pre ++ [x]))) (firstL s (pre ++ [x])).length)) := by
        have h := update_run (firstL s pre) (w.heap.size + 1) x (distF s x) W3 HI3.out.h2 HFN.out
        have e : firstL s pre ++ [(x, distF s x)] = firstL s (pre ++ [x]) := by simp [firstL]
        rw [e] at h
        exact h
      refine hK _ _ ⟨HI3.out.h1, HX3.out, HI3.out.h3⟩ (fun _ => ?_)
      clear hb hK K
      refine wpAnyH_ready (rs := [7]) (by kernel_rfl) (by simp) ?_
      refine AllReadyH.cons rfl (fun K hK => ?_) AllReadyH.nil
      go_simp
      have hne : w.heap.size + 1 ≠ V.heap.size := by have := HZ.out; omega
      refine hK _ _ ⟨(World.putObj_heap_other (by omega)).trans HI3.out.h1, (World.putObj_heap_other (Ne.symm hne)).trans HX3.out, (World.putObj_heap_other (by omega)).trans HI3.out.h3⟩ (fun _ => wpAnyH_done (by kernel_rfl) ?_ _)
      have hz2 : W₂.heap.size = V.heap.size + 1 := by rw [HZ2.out]; simp
      refine (show Exit.normal = Exit.normal ∧ KeepR (w.heap.size + 3) W.heap.size W₂ _ ∧ Fw w _ (w.heap.size + 1) k s cv (firstL s (pre ++ [x])) from ⟨rfl, fun q hq => ?_, ?_⟩)
      · have hz := HZ.out
        have hq2 : q ≠ w.heap.size + 1 ∧ q < W₂.heap.size := by rcases hq with h | ⟨h, h'⟩ <;> omega
        exact (World.putObj_heap_other hq2.1).trans (HKB.out.block q hq2.2)
      · exact ⟨(World.putObj_heap_other (by omega)).trans HI3.out.h1, World.putObj_heap_same (blk_lt HI3.out.h2), (World.putObj_heap_other (by omega)).trans HI3.out.h3, rfl, HI3.out.hb.trans ((sameBut_put _ _ _).below (by omega))⟩
    exact AllReadyH.nil
  · intro W' hi hd hsz
    have HI := Aside0.mk hi
    have HDD := Aside0.mk hd
    have m0 := blk_cell HI.out.h3 0
    simp only [List.getElem?_toArray, List.getElem?_cons_zero] at m0
    clear hi hd
    gi_wp2
    refine ⟨by simp, .inl ⟨_, _, rfl, run_takeDeferred HDD.out, ?_⟩⟩
    refine ⟨_, results_tmp rfl _ _ _, rfl, ?_, ?_⟩
    · exact (World.putObj_heap_other (by have := HZ.out; omega)).trans HI.out.h2
    · exact HI.out.hb.trans ((sameBut_put _ _ _).below (by have := HZ.out; omega))
end Go.Proofs.Ythadaajgjloogaa.L
