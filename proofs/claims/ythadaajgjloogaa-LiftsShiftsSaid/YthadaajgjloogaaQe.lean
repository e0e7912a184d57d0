import Derived.Test.YthadaajgjloogaaQd
import Derived.Test.YthadaajgjloogaaPLiftsServesx7
namespace Go.Proofs.Ythadaajgjloogaa.L
open Go.RowKit Go.Proofs.YthadaajgjloogaaW.PrintWords Go.Proofs.YthadaajgjloogaaW.PrintLast Go.Proofs.YthadaajgjloogaaW.PrintMore
attribute [local go_sem] max2_int min2_int max_two min_two max_three min_three max_four min_four

/-! ### schedule (55), once more: what is asked of the closure is asked at the calls alone -/
theorem stepS_cost2 {σ : Type} (serve : σ → List Int → Int → σ × List Int) (st0 : σ) (start c : List Int) {k : Nat} (hk : k ≤ 3) (hp : ∀ j, j ≤ c.length → Pos k (stepS serve st0 start c j).2.1) : ∀ j, j ≤ c.length → 0 ≤ (stepS serve st0 start c j).2.2.2 ∧ (stepS serve st0 start c j).2.2.2 ≤ 90 * (j : Int)
  | 0, _ => by simp [stepS]
  | j + 1, h => by
    have h1 := stepS_cost2 serve st0 start c hk hp j (by omega)
    have h2 := distF_range (hp j (by omega)) (hp (j + 1) h) hk
    simp only [stepS] at h2 ⊢
    omega
/-- The blocks below B stay, and so do all maps. -/
def Keeps (B : Nat) (W W' : World) : Prop := (∀ i, i < B → W'.heap[i]? = W.heap[i]?) ∧ ∀ (i : Nat) (es : Array MapEntry) (n : Nat), W.heap[i]? = some (Obj.map es n) → W'.heap[i]? = some (Obj.map es n)
theorem keeps_of_below {B : Nat} {W W' : World} (h : B ≤ W.heap.size) (hb : Below W.heap.size W W') : Keeps B W W' := ⟨fun i hi => hb.block i (by omega), fun i es n hi => (hb.block i (blk_lt hi)).trans hi⟩
theorem keeps_set3 {B g : Nat} {W : World} {s : List Int} {x y z : Value} (h : W.heap[g]? = some (.cells (sp s) 60 (0, 0))) (hg : B ≤ g) : Keeps B W (((W.setCell ⟨g, 0, none⟩ x).setCell ⟨g, 1, none⟩ y).setCell ⟨g, 2, none⟩ z) := by
  have key : ∀ i, i ≠ g → (((W.setCell ⟨g, 0, none⟩ x).setCell ⟨g, 1, none⟩ y).setCell ⟨g, 2, none⟩ z).heap[i]? = W.heap[i]? := fun i hi => (Below.heap_setCell _ _ _ i hi).trans ((Below.heap_setCell _ _ _ i hi).trans (Below.heap_setCell _ _ _ i hi))
  exact ⟨fun i hi => key i (by omega), fun i es n hi => (key i (by rintro rfl; rw [h] at hi; cases hi)).trans hi⟩
theorem keeps_row {B D : Nat} {W W' : World} {row : Option Nat} (hD : B ≤ D) (hb : Below D W W') (hg : W.grownBy W' row) (hty : ∀ q, row = some q → ∃ cells t, W.heap[q]? = some (.cells cells t (0, 0))) : Keeps B W W' :=
  ⟨fun i hi => hb.block i (by omega), fun i es n hi => (hg.block i (blk_lt hi) (fun e => by obtain ⟨cl, t, hc⟩ := hty i e.symm; rw [hi] at hc; cases hc)).trans hi⟩
set_option maxHeartbeats 4000000 in
theorem schedule2_calls {σ : Type} (serve : σ → List Int → Int → σ × List Int) (st0 : σ) (g : Nat) (first caps : Array Value) (k : Nat) (start c : List Int) (A : Option Addr) (cc : Nat) (row : Option Nat) (J : σ → World → Prop) (w : World)
    (hcf : ∀ (args : Array Value) (W : World), (callFunc g args).run Try.prog W = .ok (.enter g args) W)
    (hJ : ∀ st W W', J st W → Keeps w.heap.size W W' → J st W')
    (hp : ∀ j, j ≤ c.length → Pos k (stepS serve st0 start c j).2.1)
    (hstep : ∀ j, j < c.length → ∀ W, J (stepS serve st0 start c j).1 W → w.grownBy W row → Calls Try.prog g (first ++ (#[.agg (sp (stepS serve st0 start c j).2.1), .int .i64 (rd c j)] ++ caps)) W fun e W' => e = .returned (.agg (sp (stepS serve st0 start c (j + 1)).2.1)) ∧ J (stepS serve st0 start c (j + 1)).1 W' ∧ W.grownBy W' row)
    (hk1 : 1 ≤ k) (hk3 : k ≤ 3) (h0 : Pos k start) (hc : ∀ x ∈ c, 0 ≤ x ∧ x ≤ 30) (hcl : c.length ≤ 1000)
    (hC : ∀ W, w.grownBy W row → Kd.C (Kd.int .i64) W A c.length c) (hrow : ∀ r, row = some r → r < w.heap.size) (hJ0 : J st0 w) :
    Calls Try.prog 55 #[.agg (hl k start (.slice A c.length cc)), .func (.func g) first caps] w fun e w' => ∃ v, e = .returned (.tuple #[v, .int .i64 (stepS serve st0 start c c.length).2.2.2]) ∧
      Rows w' (w.heap.size + 2) v (stepS serve st0 start c c.length).2.2.1 ∧ J (stepS serve st0 start c c.length).1 w' ∧ w.grownBy w' row := by
  have HJ := Aside0.mk hJ
  have HP := Aside0.mk hp
  have HT := Aside0.mk hstep
  have H0 := Aside0.mk h0
  have HC := Aside0.mk hc
  have HCC := Aside0.mk hC
  have HR := Aside0.mk hrow
  have HJ0 := Aside0.mk hJ0
  clear hJ hp hstep h0 hc hC hrow hJ0
  go_enter Try.func55, Try.ntmps55
  go_upto_region 4 with (fail)
  refine wpc_world (fun W => Aside0 (Sw w W row k start (.slice A c.length cc) start (.slice none 0 0) [] ∧ J st0 W))
    ⟨⟨⟨alo (aln _ _) _, aln' _ _ (by simp), Kd.R_nil _ _ _ _ _, ?_⟩, ?_⟩⟩ ?_
  · exact grown_of_below (((Below.refl _ _).alloc (Nat.le_refl _) _).alloc (by simp) _) _
  · exact HJ.out _ _ _ HJ0.out (keeps_of_below (Nat.le_refl _) (((Below.refl _ _).alloc (Nat.le_refl _) _).alloc (by simp) _))
  rintro W HW
  obtain ⟨⟨c0, c1, c2, c3, c4⟩, _⟩ := hl_read HW.out.1.h2
  go_wp2
  go_loopw [6, 7, 10, 11, 17] (fun v6 v7 _ _ v17 wr => ∃ j : Nat, j ≤ c.length ∧ v17 = .int .i64 j ∧ v7 = .int .i64 (stepS serve st0 start c j).2.2.2 ∧
      Aside0 (Sw w wr row k start (.slice A c.length cc) (stepS serve st0 start c j).2.1 v6 (stepS serve st0 start c j).2.2.1 ∧ J (stepS serve st0 start c j).1 wr)) (fun _ _ _ _ v17 _ => c.length - (intOf v17).toNat)
  case atStart => exact ⟨0, Nat.zero_le _, rfl, rfl, HW⟩
  case round =>
    clear HW c0 c1 c2 c3 c4
    obtain ⟨j, hj, rfl, rfl, HS⟩ := hrel
    by_cases hlt : j < c.length
    · have HC1 := HCC.out _ HS.out.1.hg
      obtain ⟨ad, rfl, hx⟩ := Kd.at_int HC1 (j : Int) (by omega) (by omega)
      rw [Int.toNat_natCast] at hx
      clear HC1
      have HX := Aside0.mk (HC.out _ (rd_mem hlt))
      have PN := Aside0.mk (HP.out j hj)
      have PN1 := Aside0.mk (HP.out (j + 1) hlt)
      have hco := stepS_cost2 serve st0 start c hk3 HP.out j hj
      have hdi := distF_range PN.out PN1.out hk3
      have HE1 : Aside0 ((stepS serve st0 start c (j + 1)).2.2.2 = (stepS serve st0 start c j).2.2.2 + distF (stepS serve st0 start c j).2.1 (stepS serve st0 start c (j + 1)).2.1) := ⟨rfl⟩
      have HE2 : Aside0 ((stepS serve st0 start c (j + 1)).2.2.1 = (stepS serve st0 start c j).2.2.1 ++ [(stepS serve st0 start c (j + 1)).2.1]) := ⟨rfl⟩
      have HG0 := Aside0.mk (HT.out j hlt wr HS.out.2 HS.out.1.hg)
      have HG : Aside0 (Calls Try.prog g (first ++ (#[.agg #[.int .i64 (rd (stepS serve st0 start c j).2.1 0), .int .i64 (rd (stepS serve st0 start c j).2.1 1), .int .i64 (rd (stepS serve st0 start c j).2.1 2)], .int .i64 (rd c j)] ++ caps)) wr fun e W' => e = .returned (.agg (sp (stepS serve st0 start c (j + 1)).2.1)) ∧ J (stepS serve st0 start c (j + 1)).1 W' ∧ wr.grownBy W' row) := HG0
      clear HG0
      have HLo : Aside0 ((stepS serve st0 start c j).2.2.1.length = j) := ⟨stepS_len serve st0 start c j⟩
      generalize (stepS serve st0 start c j).2.1 = now at *
      generalize hnxt : (stepS serve st0 start c (j + 1)).2.1 = nxt at *
      have Enxt := Aside0.mk hnxt
      clear hnxt
      generalize (stepS serve st0 start c j).2.2.2 = cost at *
      generalize hcost1 : (stepS serve st0 start c (j + 1)).2.2.2 = cost1 at *
      have Ecost1 := Aside0.mk hcost1
      clear hcost1
      generalize (stepS serve st0 start c j).2.2.1 = out at *
      generalize hout1 : (stepS serve st0 start c (j + 1)).2.2.1 = out1 at *
      have Eout1 := Aside0.mk hout1
      clear hout1
      generalize (stepS serve st0 start c j).1 = st at *
      generalize hst1 : (stepS serve st0 start c (j + 1)).1 = st1 at *
      have Est1 := Aside0.mk hst1
      clear hst1
      obtain ⟨r0, r1, r2, _, _, _⟩ := sp_read HS.out.1.h8
      go_upto_region 8 with ((with_reducible refine HG.out.mono ?_); rintro e W1 ⟨rfl, hj1, hg1⟩; rw [spv nxt]; have HS1 := Aside0.mk (And.intro (HS.out.1.grown HR.out hg1) hj1); clear hj1 hg1)
      clear r0 r1 r2 hx
      refine wpc_world (fun W => Aside0 (Sw w W row k start (.slice (some ad) c.length cc) now u6 out ∧ J st1 W) ∧ Aside0 (W.heap[W1.heap.size]? = some (.cells (sp nxt) 60 (0, 0)))) ⟨⟨HS1.out.1.below ((Below.refl _ _).alloc (Nat.le_refl _) _), HJ.out _ _ _ HS1.out.2 (keeps_of_below (by have := HS1.out.1.lt; omega) ((Below.refl _ _).alloc (Nat.le_refl _) _))⟩, ⟨aln _ _⟩⟩ ?_
      have hsz : w.heap.size + 2 ≤ W1.heap.size := HS1.out.1.lt
      clear HS1 HS HG
      rintro W2 ⟨HS, HN⟩
      obtain ⟨⟨c0, c1, c2, c3, c4⟩, _⟩ := hl_read HS.out.1.h2
      obtain ⟨r0, r1, r2, _, _, _⟩ := sp_read HS.out.1.h8
      obtain ⟨n0, n1, n2, _, _, _⟩ := sp_read HN.out
      go_upto_region 9 with (go_at_call 54; refine (distance_calls k start (.slice (some ad) c.length cc) now nxt _ hk3 PN.out.fl PN1.out.fl).mono ?_; rintro e W3 ⟨rfl, hb⟩; have HS3 := Aside0.mk (And.intro (HS.out.1.below hb) (HJ.out _ _ _ HS.out.2 (keeps_of_below (by have := HS.out.1.lt; omega) hb))); have HN3 := Aside0.mk ((hb.block _ (blk_lt HN.out)).trans HN.out); clear hb)
      have HDF : Aside0 (distF now nxt = sumI (dl now nxt k)) := ⟨by unfold distF; rw [PN.out.len]⟩
      rw [HDF.out] at hdi HE1
      have hco1 : cost ≤ 90000 := by omega
      go_upto_region 9 with (go_at_call 58; refine (total2_calls cost (sumI (dl now nxt k)) W3.heap.size _ (aln _ _) (by omega) (by omega)).mono ?_; rintro e W4 ⟨rfl, rfl⟩; rw [← HE1.out])
      clear c0 c1 c2 c3 c4 r0 r1 r2 n0 n1 n2
      refine wpc_world (fun W => Aside0 (Sw w W row k start (.slice (some ad) c.length cc) now u6 out ∧ J st1 W) ∧ Aside0 (W.heap[W1.heap.size]? = some (.cells (sp nxt) 60 (0, 0)))) ⟨⟨HS3.out.1.below ((Below.refl _ _).alloc (Nat.le_refl _) _), HJ.out _ _ _ HS3.out.2 (keeps_of_below (by have := HS3.out.1.lt; omega) ((Below.refl _ _).alloc (Nat.le_refl _) _))⟩, ⟨alo HN3.out _⟩⟩ ?_
      clear HS3 HN3 HS HN
      rintro W2 ⟨HS, HN⟩
      obtain ⟨n0, n1, n2, _, _, _⟩ := sp_read HN.out
      obtain ⟨r0, r1, r2, f0, f1, f2⟩ := sp_read HS.out.1.h8
      go_upto_region 10 with (fail)
      clear n0 n1 n2 r0 r1 r2 f0 f1 f2
      refine wpc_world (fun W => Aside0 (Sw w W row k start (.slice (some ad) c.length cc) nxt u6 out ∧ J st1 W)) ⟨⟨blk_far (blk_far (blk_far HS.out.1.h2 (by simp) _) (by simp) _) (by simp) _, sp_store3 nxt HS.out.1.h8, ?_, ?_⟩, ?_⟩ ?_
      · exact Kd.R_far (Kd.R_far (Kd.R_far HS.out.1.ho (fun q hq => by simp; omega) _) (fun q hq => by simp; omega) _) (fun q hq => by simp; omega) _
      · exact grown_far (grown_far (grown_far HS.out.1.hg (by simp) _) (by simp) _) (by simp) _
      · exact HJ.out _ _ _ HS.out.2 (keeps_set3 HS.out.1.h8 (by simp))
      clear HS HN
      rintro W5 HS
      obtain ⟨⟨c0, c1, c2, c3, c4⟩, _⟩ := hl_read HS.out.1.h2
      have hkI : (k : Int) ≤ 3 := by omega
      have hlo : (out.length + 1) * 24 ≤ 140737488355328 := by rw [HLo.out]; omega
      go_wp2_with (first
        | (go_at_call 86; refine (clone_sp (w.heap.size + 1) k nxt _ HS.out.1.h8 PN1.out.len hk3).mono ?_; rintro e W6 ⟨vr, rfl, hr6, hb6⟩; have HS6 := Aside0.mk (And.intro (HS.out.1.below hb6) (HJ.out _ _ _ HS.out.2 (keeps_of_below (by have := HS.out.1.lt; omega) hb6))); have HR6 := Aside0.mk hr6; have HZ6 := Aside0.mk hb6.size; clear hb6; obtain ⟨Ar, cr, rfl⟩ := Kd.R_slice hr6; clear hr6)
        | ((with_reducible refine gate_builtin (b := .append) (xs := #[.tmp 33, .tmp 38]) rfl ?_); at_builtin; refine Kd.R_append (Kd.slice 3 (Kd.int .i64)) (w0 := W6) (W := W6) (w.heap.size + 2) rfl (.tmp 33) (.tmp 38) 30 22 (.slice none 0 0) 24 rfl Try.underlying30 info22 rfl (by decide) (by omega) u6 out nxt [.slice Ar nxt.length cr] (fun x => w.heap.size + 2 ≤ x) (fun x => W5.heap.size ≤ x) rfl rfl (Kd.M_row (Kd.R_lower HR6.out HS.out.1.lt)) (fun q hq => ⟨Nat.le_trans HS.out.1.lt hq, fun e => Nat.lt_irrefl _ (Nat.lt_of_lt_of_le (Kd.R_lt HS.out.1.ho q e.symm) hq)⟩) (fun q hq => Nat.le_trans HS6.out.1.lt hq) HS6.out.1.ho (Below.refl _ _) HS6.out.1.lt hlo ?_; intro v1 w1 hR1 hB1 hg1 hat1; have HS7 : Aside0 (Sw w w1 row k start (.slice (some ad) c.length cc) nxt v1 (out ++ [nxt]) ∧ J st1 w1) := ⟨⟨blk_grown HS6.out.1.h2 hg1 (fun e => by have := HS.out.1.ho.1 _ e.symm; omega), blk_grown HS6.out.1.h8 hg1 (fun e => by have := HS.out.1.ho.1 _ e.symm; omega), hR1, grown_below HS6.out.1.hg hB1 (by omega)⟩, HJ.out _ _ _ HS6.out.2 (keeps_row (by omega) hB1 hg1 (fun q hq => by obtain ⟨cl, hcl⟩ := Kd.R_typed HS6.out.1.ho q hq; exact ⟨cl, _, hcl⟩))⟩; clear hR1 hB1 hg1 hat1))
      go_roundw
      case rel => exact ⟨j + 1, by omega, by go_num, by rw [Ecost1.out], ⟨by rw [Enxt.out, Eout1.out, Est1.out, HE2.out]; exact HS7.out⟩⟩
      case measure => simp [intOf]; omega
    · obtain rfl : j = c.length := by omega
      go_wp2
      go_ret2
      exact ⟨u6, rfl, HS.out.1.ho, HS.out.2, HS.out.1.hg⟩
end Go.Proofs.Ythadaajgjloogaa.L

namespace Go.Proofs.Ythadaajgjloogaa.L
open Go.RowKit Go.Shelf Go.Proofs.YthadaajgjloogaaW.PrintWords Go.Proofs.YthadaajgjloogaaW.PrintLast Go.Proofs.YthadaajgjloogaaW.PrintMore
attribute [local go_sem] max2_int min2_int max_two min_two max_three min_three max_four min_four
attribute [local go_sem] Oper.semAt_some

/-! ### Foresee's closure (60) -/
theorem from2_fr {W : World} {k hb gb : Nat} {s0 : List Int} {cv : Value} {s : List Int} (hh : W.heap[hb]? = some (.cells (hl k s0 cv) 62 (0, 0))) (hg : W.heap[gb]? = some (.cells (sp s) 60 (0, 0))) (hk3 : k ≤ 3) (hs : Pos k s) :
    FrOk W k 62 #[.pointer (some ⟨hb, 0, none⟩), .pointer (some ⟨gb, 0, none⟩)] (distF s) :=
  ⟨enter_fn 62 Try.func62 rfl rfl, fun p hp W2 h2 => from2_calls hb gb k s0 cv s p W2 ((h2.block _ (blk_lt hh)).trans hh) ((h2.block _ (blk_lt hg)).trans hg) hk3 hs (allP_pos hp)⟩
def forP (k : Nat) (f : List Int → Int) (p : List Int) (x : Int) : List Int := (chF (fun q => aftF k f x q + distF p q) x (allP k)).1

set_option maxRecDepth 100000 in
set_option maxHeartbeats 4000000 in
theorem foreStep_calls (k : Nat) (s0 : List Int) (ad : Option Addr) (cl cc : Nat) (hb bx mb : Nat) (f : List Int → Int) (Bd : Int) (p : List Int) (x : Int) (w : World) (hk1 : 1 ≤ k) (hk3 : k ≤ 3) (hh : w.heap[hb]? = some (.cells (hl k s0 (.slice ad cl cc)) 62 (0, 0))) (hx : w.heap[bx]? = some (.cells #[.map (some mb)] 68 (0, 0))) (hM : MapF w mb k f)
    (hf : ∀ q ∈ allP k, 0 ≤ f q ∧ f q ≤ Bd) (hBd : 0 ≤ Bd ∧ Bd ≤ 900000) (hp : Pos k p) (hx0 : 0 ≤ x ∧ x ≤ 30) :
    Calls Try.prog 60 #[.agg (sp p), .int .i64 x, .pointer (some ⟨hb, 0, none⟩), .pointer (some ⟨bx, 0, none⟩)] w fun e w' => ∃ mb', e = .returned (.agg (sp (forP k f p x))) ∧ w'.heap[bx]? = some (.cells #[.map (some mb')] 68 (0, 0)) ∧ MapF w' mb' k (aftF k f x) ∧ w.grownBy w' (some bx) := by
  have HH := Aside0.mk hh
  have HX := Aside0.mk hx
  have HM := Aside0.mk hM
  have HF := Aside0.mk hf
  have HP := Aside0.mk hp
  have HX0 := Aside0.mk hx0
  have hne : bx ≠ hb := by rintro rfl; rw [hh] at hx; cases hx
  clear hh hx hM hf hp hx0
  rw [spv p]
  go_enter Try.func60, Try.ntmps60
  go_upto_region 1 with (fail)
  refine wpc_world (fun V => Aside0 (V.heap[hb]? = some (.cells (hl k s0 (.slice ad cl cc)) 62 (0, 0))) ∧ Aside0 (V.heap[bx]? = some (.cells #[.map (some mb)] 68 (0, 0))) ∧ Aside0 (MapF V mb k f) ∧ Aside0 (V.heap[w.heap.size]? = some (.cells (sp p) 60 (0, 0))) ∧ Aside0 (V.heap[w.heap.size + 1]? = some (.cells (sp []) 60 (0, 0))) ∧ Aside0 (Below w.heap.size w V))
    ⟨⟨alo (alo HH.out _) _⟩, ⟨alo (alo HX.out _) _⟩, ⟨HM.out.below HM.out.lt (below_alloc (below_alloc (Below.refl _ _) _) _)⟩, ⟨alo (aln _ _) _⟩, ⟨aln' _ _ (by simp)⟩, ⟨below_alloc (below_alloc (Below.refl _ _) _) _⟩⟩ ?_
  have HBX := Aside0.mk (blk_lt HX.out)
  have HBH := Aside0.mk (blk_lt HH.out)
  clear HH HX HM
  rintro V ⟨HH, HX, HM, H4, H6, HB⟩
  obtain ⟨⟨c0, c1, c2, c3, c4⟩, _⟩ := hl_read HH.out
  have m0 := blk_cell HX.out 0
  simp only [List.getElem?_toArray, List.getElem?_cons_zero] at m0
  have hBd0 := hBd.2
  go_upto_region 2 with (go_at_call 50; refine (after_calls k s0 _ mb f Bd x _ hk1 hk3 HX0.out HM.out HF.out (by omega)).mono ?_; rintro e W2 ⟨rfl, hm, hb2⟩; have HM2 := Aside0.mk hm; have HB2 := Aside0.mk hb2; have HX2 := Aside0.mk ((hb2.block _ (blk_lt HX.out)).trans HX.out); clear hm hb2; have m1 := blk_cell HX2.out 0; have f1 := blk_frozen HX2.out 0; simp only [List.getElem?_toArray, List.getElem?_cons_zero] at m1)
  clear c0 c1 c2 c3 c4 m0 m1 f1
  refine wpc_world (fun X => Aside0 (X.heap[hb]? = some (.cells (hl k s0 (.slice ad cl cc)) 62 (0, 0))) ∧ Aside0 (X.heap[bx]? = some (.cells #[.map (some (V.heap.size + 1))] 68 (0, 0))) ∧ Aside0 (MapF X (V.heap.size + 1) k (aftF k f x)) ∧ Aside0 (X.heap[w.heap.size]? = some (.cells (sp p) 60 (0, 0))) ∧ Aside0 (X.heap[w.heap.size + 1]? = some (.cells (sp []) 60 (0, 0))) ∧ Aside0 (w.grownBy X (some bx)))
    ⟨⟨blk_far ((HB2.out.block _ (blk_lt HH.out)).trans HH.out) (Ne.symm hne) _⟩, ⟨(blk_set HX2.out 0 _).trans rfl⟩, ⟨?_⟩, ⟨blk_far ((HB2.out.block _ (blk_lt H4.out)).trans H4.out) (by have := HBX.out; simp; omega) _⟩, ⟨blk_far ((HB2.out.block _ (blk_lt H6.out)).trans H6.out) (by have := HBX.out; simp; omega) _⟩, ⟨?_⟩⟩ ?_
  · obtain ⟨l, h1, h2⟩ := HM2.out
    refine ⟨l, (Below.heap_setCell _ _ _ _ ?_).trans h1, h2⟩
    have := blk_lt HX.out
    show V.heap.size + 1 ≠ bx
    omega
  · have hg := grown_of_below (below_step HB.out HB2.out) (some bx)
    exact ⟨hg.os, hg.tape, hg.output, by simpa [World.setCell] using hg.size, fun i hi hne2 => (Below.heap_setCell _ _ _ _ (fun e => hne2 (by rw [e]))).trans (hg.block i hi hne2)⟩
  have HVZ := Aside0.mk (blk_lt H6.out)
  clear HH HX HM H4 H6 HB HM2 HB2 HX2
  rintro X ⟨HH, HX, HM, H4, H6, HG⟩
  obtain ⟨⟨c0, c1, c2, c3, c4⟩, _⟩ := hl_read HH.out
  have m0 := blk_cell HX.out 0
  simp only [List.getElem?_toArray, List.getElem?_cons_zero] at m0
  have HCH : Aside0 (Calls Try.prog 61 #[.agg #[.int .i64 k, .int .i64 (rd s0 0), .int .i64 (rd s0 1), .int .i64 (rd s0 2), .slice ad cl cc], .map (some (V.heap.size + 1)), .int .i64 x, .func (.func 62) #[] #[.pointer (some ⟨hb, 0, none⟩), .pointer (some ⟨w.heap.size, 0, none⟩)]] X fun e w' => e = .returned (.agg #[.int .i64 (rd (forP k f p x) 0), .int .i64 (rd (forP k f p x) 1), .int .i64 (rd (forP k f p x) 2)]) ∧ Below X.heap.size X w') := by
    refine ⟨?_⟩
    obtain ⟨l, hl1, _, hl2⟩ := HM.out
    have hfr := from2_fr HH.out H4.out hk3 HP.out
    refine cheapest_calls k s0 (.slice ad cl cc) _ l _ x 62 #[] _ (aftF k f x) (distF p) X hfr.1 hk3 hl1 hl2 (fun q hq => ?_) (fun q hq => ?_) (fun q hq W2 h2 => ?_)
    · have := aftF_range hk1 HF.out HX0.out hq; omega
    · have := distF_range HP.out (allP_pos hq) hk3; omega
    · exact hfr.2 q hq W2 h2
  go_wp2_with ((with_reducible refine HCH.out.mono ?_); rintro e W3 ⟨rfl, hb3⟩; have HB3 := Aside0.mk hb3; have HX3 := Aside0.mk ((hb3.block _ (blk_lt HX.out)).trans HX.out); have H63 := Aside0.mk ((hb3.block _ (blk_lt H6.out)).trans H6.out); have HM3 := Aside0.mk (HM.out.below HM.out.lt hb3); clear hb3; obtain ⟨r0, r1, r2, f0, f1, f2⟩ := sp_read H63.out)
  refine bodyPost_ret (results_single rfl (.cell (w.heap.size + 1) 60 (sp _) (0, 0) _ rfl (sp_store3 _ H63.out) Try.underlying60 rfl size60 .nil)) rfl ⟨_, rfl, blk_far (blk_far (blk_far HX3.out (by have := HBX.out; simp; omega) _) (by have := HBX.out; simp; omega) _) (by have := HBX.out; simp; omega) _, ?_, ?_⟩
  · obtain ⟨l, h1, h2⟩ := HM3.out
    have hv := HVZ.out
    have hn : V.heap.size + 1 ≠ w.heap.size + 1 := by omega
    exact ⟨l, (Below.heap_setCell _ _ _ _ hn).trans ((Below.heap_setCell _ _ _ _ hn).trans ((Below.heap_setCell _ _ _ _ hn).trans h1)), h2⟩
  · exact grown_far (grown_far (grown_far (grownBy_trans' HG.out (grown_of_below HB3.out _)) (by simp) _) (by simp) _) (by simp) _
end Go.Proofs.Ythadaajgjloogaa.L

namespace Go.Proofs.Ythadaajgjloogaa.L
open Go.RowKit Go.Shelf Go.Proofs.YthadaajgjloogaaW.PrintWords Go.Proofs.YthadaajgjloogaaW.PrintLast Go.Proofs.YthadaajgjloogaaW.PrintMore
attribute [local go_sem] max2_int min2_int max_two min_two max_three min_three max_four min_four
attribute [local go_sem] Oper.semAt_some

/-! ### Foresee (32) -/
set_option maxHeartbeats 2000000 in
theorem Foresee_no (A B : Option Addr) (ca cb : Nat) (s c : List Int) (w : World) (hr : Kd.C (Kd.int .i64) w A s.length s) (hq : Kd.C (Kd.int .i64) w B c.length c) (hh : hallB s c = false) :
    Calls Try.prog 32 #[.slice A s.length ca, .slice B c.length cb] w fun e w' => e = .returned (.tuple #[.slice none 0 0, .int .i64 0, .int .i64 2]) ∧ Below w.heap.size w w' := by
  have HH := Aside0.mk (ansH_no (s := s) (c := c) (cv := .slice B c.length cb) hh)
  have HN := Aside0.mk (newHall_calls A B ca cb s c w hr hq)
  clear hr hq hh
  go_enter Try.func32, Try.ntmps32
  go_wp2_with (go_at_call 47; refine HN.out.mono ?_; rintro e W ⟨rfl, hb⟩; rw [HH.out]; have HB := Aside0.mk hb; clear hb)
  go_ret3
  exact ⟨rfl, HB.out.alloc HB.out.size _⟩
/-- The state: how many calls are served, the works. -/
def fS (k : Nat) : (Nat × (List Int → Int)) → List Int → Int → (Nat × (List Int → Int)) × List Int := fun st p x => ((st.1 + 1, aftF k st.2 x), forP k st.2 p x)
theorem fS_state (s c : List Int) : ∀ j, (stepS (fS s.length) (0, distF s) s c j).1 = (j, workAt s c j)
  | 0 => rfl
  | j + 1 => by
    simp only [stepS, fS]
    rw [fS_state s c j]
    rfl
theorem fS_pos {s c : List Int} (h1 : 1 ≤ s.length) (h3 : s.length ≤ 3) (hs : Pos s.length s) (hc : ∀ x ∈ c, 0 ≤ x ∧ x ≤ 30) : ∀ j, j ≤ c.length → Pos s.length (stepS (fS s.length) (0, distF s) s c j).2.1
  | 0, _ => hs
  | j + 1, h => by
    have ih := fS_pos h1 h3 hs hc j (by omega)
    have hw := workAt_range h1 h3 hs hc j (by omega)
    have hx := hc _ (rd_mem (s := c) (i := j) (by omega))
    simp only [stepS, fS]
    rw [fS_state s c j]
    exact allP_pos (chF_found h1 hx (fun q hq => by
      have h4 := aftF_range h1 hw hx hq
      have h5 := distF_range ih (allP_pos hq) h3
      exact Int.add_nonneg h4.1 h5.1)).1
def forL (s c : List Int) : List (List Int) := (stepS (fS s.length) (0, distF s) s c c.length).2.2.1
def forC (s c : List Int) : Int := (stepS (fS s.length) (0, distF s) s c c.length).2.2.2
end Go.Proofs.Ythadaajgjloogaa.L

namespace Go.Proofs.Ythadaajgjloogaa.L
open Go.RowKit Go.Shelf Go.Proofs.YthadaajgjloogaaW.PrintWords Go.Proofs.YthadaajgjloogaaW.PrintLast Go.Proofs.YthadaajgjloogaaW.PrintMore
attribute [local go_sem] max2_int min2_int max_two min_two max_three min_three max_four min_four
attribute [local go_sem] Oper.semAt_some

theorem MapF.keeps {W W2 : World} {B mb k : Nat} {f : List Int → Int} (h : MapF W mb k f) (hk : Keeps B W W2) : MapF W2 mb k f := by
  obtain ⟨l, h1, h2⟩ := h
  exact ⟨l, hk.2 _ _ _ h1, h2⟩
theorem foreSched_calls (s c : List Int) (B : Option Addr) (cb hb bx mb : Nat) (U : World) (hh : hallB s c = true)
    (h8 : U.heap[hb]? = some (.cells (hl s.length s (.slice B c.length cb)) 62 (0, 0))) (hx : U.heap[bx]? = some (.cells #[.map (some mb)] 68 (0, 0))) (hM : MapF U mb s.length (distF s))
    (hC : ∀ W, U.grownBy W (some bx) → Kd.C (Kd.int .i64) W B c.length c) :
    Calls Try.prog 55 #[.agg (hl s.length s (.slice B c.length cb)), .func (.func 60) #[] #[.pointer (some ⟨hb, 0, none⟩), .pointer (some ⟨bx, 0, none⟩)]] U fun e w' => ∃ v, e = .returned (.tuple #[v, .int .i64 (forC s c)]) ∧ Rows w' (U.heap.size + 2) v (forL s c) ∧ U.grownBy w' (some bx) := by
  obtain ⟨⟨hpos, hk1, hk3⟩, h40, hcs⟩ := hallB_parts hh
  refine (schedule2_calls (fS s.length) (0, distF s) 60 #[] #[.pointer (some ⟨hb, 0, none⟩), .pointer (some ⟨bx, 0, none⟩)] s.length s c B cb (some bx)
    (fun st X => X.heap[hb]? = some (.cells (hl s.length s (.slice B c.length cb)) 62 (0, 0)) ∧ ∃ mb, X.heap[bx]? = some (.cells #[.map (some mb)] 68 (0, 0)) ∧ MapF X mb s.length st.2) U (enter_fn 60 Try.func60 rfl rfl)
    ?_ (fS_pos hk1 hk3 hpos hcs) ?_ hk1 hk3 hpos hcs (by omega) hC ?_ ⟨h8, mb, hx, hM⟩).mono ?_
  · rintro st W W' ⟨j1, m, j2, j3⟩ hk
    exact ⟨(hk.1 _ (blk_lt h8)).trans j1, m, (hk.1 _ (blk_lt hx)).trans j2, j3.keeps hk⟩
  · rintro j hj W ⟨j1, m, j2, j3⟩ hg
    rw [fS_state s c j] at j3
    have e1 : (stepS (fS s.length) (0, distF s) s c (j + 1)).2.1 = forP s.length (workAt s c j) (stepS (fS s.length) (0, distF s) s c j).2.1 (rd c j) := by
      simp only [stepS, fS]; rw [fS_state s c j]
    have e2 : (stepS (fS s.length) (0, distF s) s c (j + 1)).1 = (j + 1, aftF s.length (workAt s c j) (rd c j)) := by rw [fS_state s c (j + 1)]; rfl
    rw [e1, e2]
    refine (foreStep_calls s.length s B c.length cb hb bx m (workAt s c j) (90 + 30 * (j : Int)) _ (rd c j) W hk1 hk3 j1 j2 j3 (workAt_range hk1 hk3 hpos hcs j (by omega)) (by omega) (fS_pos hk1 hk3 hpos hcs j (by omega)) (hcs _ (rd_mem (by omega)))).mono ?_
    rintro e w' ⟨mb', he, hx', hm', hg'⟩
    refine ⟨he, ⟨?_, mb', hx', hm'⟩, hg'⟩
    exact (hg'.block _ (blk_lt j1) (fun e => by
      have : hb = bx := by simpa using e
      subst this
      rw [h8] at hx; cases hx)).trans j1
  · rintro r e
    cases e
    exact blk_lt hx
  · rintro e w' ⟨v, he, hr, _, hg⟩
    exact ⟨v, he, hr, hg⟩

theorem below_of_row {w U X : World} {b : Nat} (h1 : Below w.heap.size w U) (h2 : U.grownBy X (some b)) (hb : w.heap.size ≤ b) : Below w.heap.size w X :=
  ⟨h2.os.trans h1.os, h2.tape.trans h1.tape, h2.output.trans h1.output, Nat.le_trans h1.size h2.size, fun i hi => (h2.block i (Nat.lt_of_lt_of_le hi h1.size) (fun e => by
    injection e with e
    omega)).trans (h1.block i hi)⟩

set_option maxRecDepth 100000 in
set_option maxHeartbeats 4000000 in
theorem Foresee_yes (A B : Option Addr) (ca cb : Nat) (s c : List Int) (w : World) (hr : Kd.C (Kd.int .i64) w A s.length s) (hq : Kd.C (Kd.int .i64) w B c.length c) (hh : hallB s c = true) :
    Calls Try.prog 32 #[.slice A s.length ca, .slice B c.length cb] w fun e w' => ∃ v, e = .returned (.tuple #[v, .int .i64 (forC s c), .int .i64 0]) ∧ Rows w' w.heap.size v (forL s c) ∧ Below w.heap.size w w' := by
  have HH := Aside0.mk (ansH_yes (s := s) (c := c) (cv := .slice B c.length cb) hh)
  have HN := Aside0.mk (newHall_calls A B ca cb s c w hr hq)
  have HQ := Aside0.mk hq
  have HHH := Aside0.mk hh
  obtain ⟨⟨hpos, hk1, hk3⟩, h40, hcs⟩ := hallB_parts hh
  have HPO := Aside0.mk hpos
  have HCS := Aside0.mk hcs
  clear hr hq hh hpos hcs
  go_enter Try.func32, Try.ntmps32
  go_upto_region 4 with (go_at_call 47; refine HN.out.mono ?_; rintro e W ⟨rfl, hb⟩; rw [HH.out]; have HB := Aside0.mk hb; clear hb)
  refine wpc_world (fun V => Aside0 (V.heap[W.heap.size]? = some (.cells (hl s.length s (.slice B c.length cb)) 62 (0, 0))) ∧ Aside0 (Below w.heap.size w V) ∧ Aside0 (W.heap.size < V.heap.size ∧ w.heap.size ≤ W.heap.size)) ⟨⟨aln _ _⟩, ⟨below_alloc HB.out _⟩, ⟨by simp, HB.out.size⟩⟩ ?_
  clear HB
  rintro V ⟨H8, HB, HZ⟩
  obtain ⟨⟨c0, c1, c2, c3, c4⟩, _⟩ := hl_read H8.out
  go_upto_region 5 with (go_at_call 49; refine (first_calls s.length s _ _ hk3 HPO.out).mono ?_; rintro e V2 ⟨rfl, hm, hb⟩; have HM := Aside0.mk (first_MapF hk3 s hm); have HB2 := Aside0.mk hb; clear hm hb)
  clear c0 c1 c2 c3 c4
  refine wpc_world (fun U => Aside0 (U.heap[W.heap.size]? = some (.cells (hl s.length s (.slice B c.length cb)) 62 (0, 0))) ∧ Aside0 (U.heap[V2.heap.size]? = some (.cells #[.map (some (V.heap.size + 1))] 68 (0, 0))) ∧ Aside0 (MapF U (V.heap.size + 1) s.length (distF s)) ∧ Aside0 (Below w.heap.size w U) ∧ Aside0 (W.heap.size < V2.heap.size ∧ V2.heap.size < U.heap.size ∧ w.heap.size ≤ W.heap.size))
    ⟨⟨alo ((HB2.out.block _ (blk_lt H8.out)).trans H8.out) _⟩, ⟨aln _ _⟩, ⟨HM.out.below HM.out.lt (below_alloc (Below.refl _ _) _)⟩, ⟨below_alloc (below_step HB.out HB2.out) _⟩, ⟨?_⟩⟩ ?_
  · have h1 := HB2.out.size
    have h2 := HZ.out
    simp only [World.size_alloc] at h1 ⊢
    omega
  clear H8 HM HB HB2 HZ
  rintro U ⟨H8, HX, HM, HBU, HZU⟩
  have HSC := Aside0.mk (foreSched_calls s c B cb W.heap.size V2.heap.size (V.heap.size + 1) U HHH.out H8.out HX.out HM.out (fun X hg => Kd.C_below HQ.out (below_of_row HBU.out hg (by have := HZU.out; omega))))
  obtain ⟨⟨c0, c1, c2, c3, c4⟩, _⟩ := hl_read H8.out
  go_wp2_with (go_at_call 55; refine HSC.out.mono ?_; rintro e W2 ⟨v, rfl, hr2, hg2⟩; have HR2 := Aside0.mk hr2; have HG2 := Aside0.mk hg2; clear hr2 hg2)
  go_ret3
  have h1 := HZU.out
  exact ⟨v, rfl, Kd.R_mono (Kd.R_lower HR2.out (by omega)) (fun q hq => by omega), below_of_row HBU.out HG2.out (by omega)⟩
end Go.Proofs.Ythadaajgjloogaa.L

namespace Go.Proofs.Ythadaajgjloogaa.L
open Go.RowKit Go.Shelf Go.Proofs.YthadaajgjloogaaW.PrintWords Go.Proofs.YthadaajgjloogaaW.PrintLast Go.Proofs.YthadaajgjloogaaW.PrintMore

/-! ### Plain laws of the lifts: distances -/
theorem ab_cases (a b : Int) : (a ≤ b ∧ ab a b = b - a) ∨ (b ≤ a ∧ ab a b = a - b) := by
  unfold ab; split <;> omega
theorem ab_self (a : Int) : ab a a = 0 := by unfold ab; split <;> omega
theorem ab_comm (a b : Int) : ab a b = ab b a := by have := ab_cases a b; have := ab_cases b a; omega
theorem ab_tri (a b c : Int) : ab a c ≤ ab a b + ab b c := by have := ab_cases a b; have := ab_cases b c; have := ab_cases a c; omega
theorem ab_nn (a b : Int) : 0 ≤ ab a b := by have := ab_cases a b; omega
/-- The distance, by recursion. -/
def dR : List Int → List Int → Int
  | a :: p, b :: q => ab a b + dR p q
  | _, _ => 0
theorem dl_cons (a b : Int) (p q : List Int) (n : Nat) : dl (a :: p) (b :: q) (n + 1) = ab a b :: dl p q n := by
  unfold dl
  rw [List.range_succ_eq_map, List.map_cons, List.map_map]
  congr 1
theorem distF_dR : ∀ (p q : List Int), p.length = q.length → distF p q = dR p q
  | [], [], _ => by simp [distF, dl, sumI, dR]
  | [], _ :: _, h => by simp at h
  | _ :: _, [], h => by simp at h
  | a :: p, b :: q, h => by
    have ih := distF_dR p q (by simpa using h)
    unfold distF at ih ⊢
    rw [List.length_cons, dl_cons, sumI, ih, dR]
theorem dR_nn : ∀ (p q : List Int), 0 ≤ dR p q
  | [], _ => by simp [dR]
  | _ :: _, [] => by simp [dR]
  | a :: p, b :: q => by have := dR_nn p q; have := ab_nn a b; simp only [dR]; omega
theorem dR_self : ∀ (p : List Int), dR p p = 0
  | [] => rfl
  | a :: p => by simp only [dR, ab_self, dR_self p]; rfl
theorem dR_comm : ∀ (p q : List Int), dR p q = dR q p
  | [], [] => rfl
  | [], _ :: _ => rfl
  | _ :: _, [] => rfl
  | a :: p, b :: q => by simp only [dR, ab_comm a b, dR_comm p q]
theorem dR_tri : ∀ (p q r : List Int), p.length = q.length → dR p r ≤ dR p q + dR q r
  | [], q, r, _ => by have := dR_nn q r; simp only [dR]; omega
  | a :: p, b :: q, [], h => by have := dR_nn (a :: p) (b :: q); simp only [dR] at this ⊢; omega
  | a :: p, b :: q, c :: r, h => by
    have := dR_tri p q r (by simpa using h)
    have := ab_tri a b c
    simp only [dR]; omega
  | _ :: _, [], _, h => by simp at h
theorem dR_set : ∀ (p : List Int) (i : Nat) (x : Int), i < p.length → dR p (p.set i x) = ab (rd p i) x
  | [], _, _, h => by simp at h
  | a :: p, 0, x, _ => by simp only [List.set_cons_zero, dR, dR_self]; rw [show rd (a :: p) ((0 : Nat) : Int) = a from rd_zero a p]; omega
  | a :: p, i + 1, x, h => by
    simp only [List.set_cons_succ, dR, ab_self]
    rw [dR_set p i x (by simpa using h), rd_cons]; omega
theorem dR_set_both : ∀ (p q : List Int) (i : Nat) (x : Int), i < p.length → p.length = q.length → dR (p.set i x) (q.set i x) + ab (rd p i) (rd q i) = dR p q
  | [], _, _, _, h, _ => by simp at h
  | _ :: _, [], _, _, _, h => by simp at h
  | a :: p, b :: q, 0, x, _, _ => by
    simp only [List.set_cons_zero, dR, ab_self]
    rw [show rd (a :: p) ((0 : Nat) : Int) = a from rd_zero a p, show rd (b :: q) ((0 : Nat) : Int) = b from rd_zero b q]; omega
  | a :: p, b :: q, i + 1, x, h, h2 => by
    simp only [List.set_cons_succ, dR]
    have := dR_set_both p q i x (by simpa using h) (by simpa using h2)
    rw [rd_cons, rd_cons]; omega

/-! ### sorting brings positions closer -/
theorem dR_insL (x y : Int) : ∀ (l b : List Int), l.length = b.length → (y :: b).Pairwise (· ≤ ·) → dR (insL x l) (y :: b) ≤ ab x y + dR l b
  | [], [], _, _ => by simp [insL, dR]
  | [], _ :: _, h, _ => by simp at h
  | _ :: _, [], h, _ => by simp at h
  | z :: l, y' :: b, h, hs => by
    unfold insL
    split
    · rename_i hzx
      have ih := dR_insL x y' l b (by simpa using h) (List.pairwise_cons.1 hs).2
      have hy : y ≤ y' := (List.pairwise_cons.1 hs).1 y' (by simp)
      simp only [dR]
      have h1 := ab_cases z y
      have h2 := ab_cases x y'
      have h3 := ab_cases x y
      have h4 := ab_cases z y'
      omega
    · simp only [dR]; omega
theorem srt_uniq {l m : List Int} (h : l.Perm m) (hs : l.Pairwise (· ≤ ·)) : l = srt m := by
  refine List.Perm.eq_of_pairwise (le := fun a b : Int => a ≤ b) (fun a b _ _ h3 h4 => by omega) hs (srt_sorted m) ?_
  exact h.trans (List.mergeSort_perm m _).symm
theorem srt_perm (l : List Int) : (srt l).Perm l := List.mergeSort_perm l _
theorem srt_cons (x : Int) (l : List Int) : srt (x :: l) = insL x (srt l) :=
  (srt_uniq ((insL_perm x _).trans ((srt_perm l).cons x)) (insL_sorted x _ (srt_sorted l))).symm
theorem srt_of_sorted {l : List Int} (h : l.Pairwise (· ≤ ·)) : srt l = l := (srt_uniq (List.Perm.refl _) h).symm
theorem srt_congr {l m : List Int} (h : l.Perm m) : srt l = srt m := srt_uniq ((srt_perm l).trans h) (srt_sorted l)
theorem dR_srt : ∀ (a b : List Int), a.length = b.length → b.Pairwise (· ≤ ·) → dR (srt a) b ≤ dR a b
  | [], [], _, _ => by simp [srt, dR]
  | [], _ :: _, h, _ => by simp at h
  | _ :: _, [], h, _ => by simp at h
  | x :: l, y :: b, h, hs => by
    have ih := dR_srt l b (by simpa using h) (List.pairwise_cons.1 hs).2
    have h2 := dR_insL x y (srt l) b (by rw [srt_len]; simpa using h) hs
    rw [srt_cons]
    simp only [dR] at h2 ⊢
    omega
def pairD (t : List (Int × Int)) : Int := sumI (t.map fun u => ab u.1 u.2)
theorem pairD_perm {t u : List (Int × Int)} (h : t.Perm u) : pairD t = pairD u := by
  unfold pairD
  induction h with
  | nil => rfl
  | cons x _ ih => simp only [List.map_cons, sumI, ih]
  | swap x y l => simp only [List.map_cons, sumI]; omega
  | trans _ _ h1 h2 => exact h1.trans h2
theorem dR_pair : ∀ (t : List (Int × Int)), dR (t.map (·.1)) (t.map (·.2)) = pairD t
  | [] => rfl
  | x :: t => by simp only [List.map_cons, dR, dR_pair t]; simp [pairD, sumI]
theorem dR_srt2 (a b : List Int) (h : a.length = b.length) : dR (srt a) (srt b) ≤ dR a b := by
  have hz1 : (a.zip b).map (·.1) = a := List.map_fst_zip (by omega)
  have hz2 : (a.zip b).map (·.2) = b := List.map_snd_zip (by omega)
  let t := (a.zip b).mergeSort fun x y => decide (x.1 ≤ y.1)
  have ht : t.Perm (a.zip b) := List.mergeSort_perm _ _
  have hs : t.Pairwise fun x y => x.1 ≤ y.1 := by
    have := List.pairwise_mergeSort (le := fun x y : Int × Int => decide (x.1 ≤ y.1)) (by intro x y z; simp; omega) (by intro x y; simp; omega) (a.zip b)
    simpa using this
  have e1 : t.map (·.1) = srt a := by
    refine srt_uniq ?_ (List.pairwise_map.2 hs)
    have := ht.map (·.1)
    rwa [hz1] at this
  have e2 : srt (t.map (·.2)) = srt b := srt_congr (by have := ht.map (·.2); rwa [hz2] at this)
  have hl : (t.map (·.2)).length = (srt a).length := by
    rw [srt_len, List.length_map, ht.length_eq, List.length_zip]; omega
  calc dR (srt a) (srt b) = dR (srt (t.map (·.2))) (srt a) := by rw [dR_comm, e2]
    _ ≤ dR (t.map (·.2)) (srt a) := dR_srt _ _ hl (srt_sorted a)
    _ = dR (t.map (·.1)) (t.map (·.2)) := by rw [dR_comm, e1]
    _ = pairD t := dR_pair t
    _ = pairD (a.zip b) := pairD_perm ht
    _ = dR a b := by rw [← dR_pair, hz1, hz2]

/-! ### the works -/
/-- f is the work of positions: it differs at most by the distance. -/
def Lip (k : Nat) (f : List Int → Int) : Prop := ∀ p ∈ allP k, ∀ q ∈ allP k, f q ≤ f p + dR p q
theorem aftB_le (f : List Int → Int) (x : Int) (p : List Int) : ∀ j i, i ≤ j → aftB f x p j ≤ aftV f x p i
  | 0, i, h => by obtain rfl : i = 0 := by omega
                  exact Int.le_refl _
  | j + 1, i, h => by
    unfold aftB
    by_cases hi : i = j + 1
    · subst hi; split <;> omega
    · have := aftB_le f x p j i (by omega)
      split <;> omega
theorem aftB_ex (f : List Int → Int) (x : Int) (p : List Int) : ∀ j, ∃ i, i ≤ j ∧ aftB f x p j = aftV f x p i
  | 0 => ⟨0, Nat.le_refl _, rfl⟩
  | j + 1 => by
    obtain ⟨i, hi, he⟩ := aftB_ex f x p j
    unfold aftB
    split
    · exact ⟨j + 1, Nat.le_refl _, rfl⟩
    · exact ⟨i, by omega, he⟩
theorem aftF_le {k : Nat} (f : List Int → Int) (x : Int) (p : List Int) {i : Nat} (h : i < k) : aftF k f x p ≤ aftV f x p i := aftB_le f x p _ i (by omega)
theorem aftF_ex {k : Nat} (hk : 1 ≤ k) (f : List Int → Int) (x : Int) (p : List Int) : ∃ i, i < k ∧ aftF k f x p = aftV f x p i := by
  obtain ⟨i, hi, he⟩ := aftB_ex f x p (k - 1)
  exact ⟨i, by omega, he⟩
theorem allP_len {k : Nat} {p : List Int} (h : p ∈ allP k) : p.length = k := (allP_pos h).len
theorem set_allP {k : Nat} {p : List Int} (h : p ∈ allP k) (i : Nat) {x : Int} (hx : 0 ≤ x ∧ x ≤ 30) : srt (p.set i x) ∈ allP k := srt_allP ((allP_pos h).set i hx)
theorem aft_lip {k : Nat} (hk : 1 ≤ k) {f : List Int → Int} (hf : Lip k f) {x : Int} (hx : 0 ≤ x ∧ x ≤ 30) : Lip k (aftF k f x) := by
  intro p hp q hq
  obtain ⟨i, hi, he⟩ := aftF_ex hk f x p
  have h1 := aftF_le f x q hi
  have lp := allP_len hp
  have lq := allP_len hq
  have h2 := hf _ (set_allP hp i hx) _ (set_allP hq i hx)
  have h3 := dR_srt2 (p.set i x) (q.set i x) (by simp; omega)
  have h4 := dR_set_both p q i x (by omega) (by omega)
  have h5 := ab_tri (rd q i) (rd p i) x
  have h6 := ab_comm (rd q i) (rd p i)
  rw [he]
  unfold aftV at h1 ⊢
  omega
theorem aft_ge {k : Nat} (hk : 1 ≤ k) {f : List Int → Int} (hf : Lip k f) {x : Int} (hx : 0 ≤ x ∧ x ≤ 30) {p : List Int} (hp : p ∈ allP k) : f p ≤ aftF k f x p := by
  obtain ⟨i, hi, he⟩ := aftF_ex hk f x p
  have lp := allP_len hp
  have h2 := hf _ (set_allP hp i hx) _ hp
  have h3 := dR_srt (p.set i x) p (by simp) (allP_sorted hp)
  have h4 := dR_set p i x (by omega)
  rw [dR_comm] at h4
  rw [he]; unfold aftV; omega
theorem rd_ex {x : Int} {p : List Int} (h : x ∈ p) : ∃ i, i < p.length ∧ rd p (i : Int) = x := by
  obtain ⟨i, hi, rfl⟩ := List.mem_iff_getElem.1 h
  exact ⟨i, hi, by simp [rd, List.getD, hi]⟩
theorem set_rd (p : List Int) (i : Nat) : p.set i (rd p i) = p := by
  by_cases h : i < p.length
  · have : rd p i = p[i] := by simp [rd, List.getD, h]
    rw [this, List.set_getElem_self]
  · rw [List.set_eq_of_length_le (by omega)]
theorem aft_has {k : Nat} (hk : 1 ≤ k) {f : List Int → Int} (hf : Lip k f) {x : Int} (hx : 0 ≤ x ∧ x ≤ 30) {p : List Int} (hp : p ∈ allP k) (hxp : x ∈ p) : aftF k f x p = f p := by
  refine Int.le_antisymm ?_ (aft_ge hk hf hx hp)
  obtain ⟨i, hi, rfl⟩ := rd_ex hxp
  rw [allP_len hp] at hi
  have h := aftF_le f (rd p i) p hi
  unfold aftV at h
  rw [set_rd, srt_of_sorted (allP_sorted hp), ab_self] at h
  omega
/-- Some positions with a lift at the floor are on the way. -/
theorem aft_via {k : Nat} (hk : 1 ≤ k) {f : List Int → Int} (hf : Lip k f) {x : Int} (hx : 0 ≤ x ∧ x ≤ 30) {p : List Int} (hp : p ∈ allP k) : ∃ q ∈ allP k, x ∈ q ∧ aftF k f x q + dR q p ≤ aftF k f x p := by
  obtain ⟨i, hi, he⟩ := aftF_ex hk f x p
  have lp := allP_len hp
  refine ⟨srt (p.set i x), set_allP hp i hx, srt_mem.2 (List.mem_set (by omega) _), ?_⟩
  rw [aft_has hk hf hx (set_allP hp i hx) (srt_mem.2 (List.mem_set (by omega) _)), he]
  have h3 := dR_srt (p.set i x) p (by simp) (allP_sorted hp)
  have h4 := dR_set p i x (by omega)
  rw [dR_comm] at h4
  unfold aftV
  omega
theorem workAt_lip {s c : List Int} (hh : hallB s c = true) : ∀ j, j ≤ c.length → Lip s.length (workAt s c j)
  | 0, _ => fun p hp q hq => by
    obtain ⟨⟨hpos, hk1, hk3⟩, h40, hcs⟩ := hallB_parts hh
    simp only [workAt]
    rw [distF_dR _ _ (allP_len hp).symm, distF_dR _ _ (allP_len hq).symm]
    exact dR_tri s p q (allP_len hp).symm
  | j + 1, h => by
    obtain ⟨⟨hpos, hk1, hk3⟩, h40, hcs⟩ := hallB_parts hh
    exact aft_lip hk1 (workAt_lip hh j (by omega)) (hcs _ (rd_mem (by omega)))
theorem posB_s {s c : List Int} (hh : hallB s c = true) : posB s = true := by
  simp only [hallB, Bool.and_eq_true] at hh; exact hh.1
theorem row_allP {k : Nat} {c : List Int} {l : List (List Int)} {j : Nat} (h : rowB k c l j = true) : rL l j ∈ allP k ∧ rd c j ∈ rL l j := by
  simp only [rowB, Bool.and_eq_true, decide_eq_true_eq] at h
  exact ⟨by rw [← h.1.2]; exact posB_allP h.1.1, h.2⟩
theorem now_allP {s c : List Int} {l : List (List Int)} (hh : hallB s c = true) : ∀ j, (∀ i, i < j → rowB s.length c l i = true) → nowAt s l j ∈ allP s.length
  | 0, _ => posB_allP (posB_s hh)
  | j + 1, h => (row_allP (h j (by omega))).1
/-- No schedule costs less than the work of its positions. -/
theorem cost_ge {s c : List Int} {l : List (List Int)} (hh : hallB s c = true) : ∀ j, j ≤ c.length → (∀ i, i < j → rowB s.length c l i = true) → workAt s c j (nowAt s l j) ≤ costTo s l j
  | 0, _, _ => by
    simp only [workAt, nowAt, costTo]
    rw [distF_dR _ _ rfl, dR_self]; omega
  | j + 1, h, hr => by
    obtain ⟨⟨hpos, hk1, hk3⟩, h40, hcs⟩ := hallB_parts hh
    have ih := cost_ge hh j (by omega) (fun i hi => hr i (by omega))
    have hl := workAt_lip hh j (by omega)
    have hn := now_allP hh j (fun i hi => hr i (by omega))
    obtain ⟨h1, h2⟩ := row_allP (hr j (by omega))
    show aftF s.length (workAt s c j) (rd c j) (rL l j) ≤ costTo s l j + distF (nowAt s l j) (rL l j)
    rw [aft_has hk1 hl (hcs _ (rd_mem (by omega))) h1 h2, distF_dR _ _ (by rw [allP_len hn, allP_len h1])]
    have := hl _ hn _ h1
    omega
theorem best_cost {s c : List Int} (hh : hallB s c = true) : ∀ i, i < c.length → workAt s c (i + 1) (bps s c (c.length - 1 - i)) = costTo s (bestL s c) (i + 1)
  | 0, h => by
    obtain ⟨⟨hpos, hk1, hk3⟩, h40, hcs⟩ := hallB_parts hh
    have hb := bps_spec hk1 hk3 hpos hcs h40 (j := c.length - 1 - 0) (by omega)
    rw [show c.length - 1 - (c.length - 1 - 0) = 0 by omega] at hb
    have hl := workAt_lip hh 0 (by omega)
    simp only [costTo, nowAt, Nat.zero_add]
    rw [bestL_get s c 0 h]
    show aftF s.length (workAt s c 0) (rd c ((0 : Nat) : Int)) _ = _
    rw [aft_has hk1 hl (hcs _ (rd_mem (by omega))) hb.1 hb.2.1]
    simp only [workAt]; omega
  | i + 1, h => by
    obtain ⟨⟨hpos, hk1, hk3⟩, h40, hcs⟩ := hallB_parts hh
    have ih := best_cost hh i (by omega)
    have hl := workAt_lip hh (i + 1) (by omega)
    have hl0 := workAt_lip hh i (by omega)
    have hb1 := bps_spec hk1 hk3 hpos hcs h40 (j := c.length - 1 - (i + 1)) (by omega)
    have hb0 := bps_spec hk1 hk3 hpos hcs h40 (j := c.length - 1 - i) (by omega)
    rw [show c.length - 1 - (c.length - 1 - (i + 1)) = i + 1 by omega] at hb1
    rw [show c.length - 1 - (c.length - 1 - i) = i by omega, show c.length - (c.length - 1 - i) = i + 1 by omega] at hb0
    rw [show costTo s (bestL s c) (i + 1 + 1) = costTo s (bestL s c) (i + 1) + distF (rL (bestL s c) i) (rL (bestL s c) (i + 1)) from rfl, ← ih]
    rw [bestL_get s c i (by omega), bestL_get s c (i + 1) h]
    have e : workAt s c (i + 1 + 1) (bps s c (c.length - 1 - (i + 1))) = workAt s c (i + 1) (bps s c (c.length - 1 - (i + 1))) := aft_has hk1 hl (hcs _ (rd_mem (by omega))) hb1.1 hb1.2.1
    rw [e]
    have hfr : frm s c (c.length - 1 - i) = distF (bps s c (c.length - 1 - (i + 1))) := by
      rw [show c.length - 1 - i = (c.length - 1 - (i + 1)) + 1 by omega, frm_succ]
    rw [hfr] at hb0
    have l1 := allP_len hb1.1
    have l0 := allP_len hb0.1
    obtain ⟨q, hq, hxq, hvia⟩ := aft_via hk1 hl0 (hcs (rd c i) (rd_mem (by omega))) hb1.1
    have h5 := hb0.2.2 q hq hxq
    have h6 := hl _ hb0.1 _ hb1.1
    rw [distF_dR _ _ (by rw [l1, l0]), distF_dR _ _ (by rw [l1, allP_len hq])] at h5
    rw [distF_dR _ _ (by rw [l1, l0])]
    have h7 := dR_comm q (bps s c (c.length - 1 - (i + 1)))
    have h8 := dR_comm (bps s c (c.length - 1 - i)) (bps s c (c.length - 1 - (i + 1)))
    have h9 : workAt s c (i + 1) q = aftF s.length (workAt s c i) (rd c i) q := rfl
    have h10 : workAt s c (i + 1) (bps s c (c.length - 1 - (i + 1))) = aftF s.length (workAt s c i) (rd c i) (bps s c (c.length - 1 - (i + 1))) := rfl
    omega
/-- The best cost is not greater than the work of any positions. -/
theorem bestC_le {s c : List Int} (hh : hallB s c = true) {p : List Int} (hp : p ∈ allP s.length) : bestC s c ≤ workAt s c c.length p := by
  obtain ⟨⟨hpos, hk1, hk3⟩, h40, hcs⟩ := hallB_parts hh
  unfold bestC
  rcases Nat.eq_zero_or_pos c.length with h0 | h0
  · rw [h0]
    simp only [costTo]
    exact (workAt_range hk1 hk3 hpos hcs 0 (by omega) p hp).1
  · have h1 := best_cost hh (c.length - 1) (by omega)
    rw [show c.length - 1 - (c.length - 1) = 0 by omega, show c.length - 1 + 1 = c.length by omega] at h1
    have hb := bps_spec hk1 hk3 hpos hcs h40 (j := 0) h0
    obtain ⟨q, hq, hxq, hvia⟩ := aft_via hk1 (workAt_lip hh (c.length - 1) (by omega)) (hcs (rd c ((c.length - 1 : Nat) : Int)) (rd_mem (by omega))) hp
    have h2 := hb.2.2 q hq (by simpa using hxq)
    simp only [frm, Nat.sub_zero] at h2
    have h3 := dR_nn q p
    rw [← h1]
    have h4 : workAt s c c.length q = aftF s.length (workAt s c (c.length - 1)) (rd c ((c.length - 1 : Nat) : Int)) q := by
      rw [show c.length = (c.length - 1) + 1 by omega]; rfl
    have h5 : workAt s c c.length p = aftF s.length (workAt s c (c.length - 1)) (rd c ((c.length - 1 : Nat) : Int)) p := by
      rw [show c.length = (c.length - 1) + 1 by omega]; rfl
    omega
theorem sched_rows {k : Nat} {c : List Int} {l : List (List Int)} (h : schedB k c l = true) : l.length = c.length ∧ ∀ i, i < c.length → rowB k c l i = true := by
  simp only [schedB, Bool.and_eq_true, decide_eq_true_eq] at h
  exact ⟨h.1, fun i hi => h.2 i (by omega)⟩
/-- No schedule costs less than the best one. -/
theorem bestC_least {s c : List Int} (hh : hallB s c = true) {l : List (List Int)} (hl : schedB s.length c l = true) : bestC s c ≤ costTo s l c.length := by
  obtain ⟨h1, h2⟩ := sched_rows hl
  exact Int.le_trans (bestC_le hh (now_allP hh c.length h2)) (cost_ge hh c.length (Nat.le_refl _) h2)
end Go.Proofs.Ythadaajgjloogaa.L

namespace Go.Proofs.Ythadaajgjloogaa.L
open Go.RowKit Go.Shelf Go.Proofs.YthadaajgjloogaaW.PrintWords Go.Proofs.YthadaajgjloogaaW.PrintLast Go.Proofs.YthadaajgjloogaaW.PrintMore

/-! ### a way of serving, as a schedule -/
theorem stepS_rL {σ : Type} (serve : σ → List Int → Int → σ × List Int) (st0 : σ) (s c : List Int) : ∀ n i, i < n → rL (stepS serve st0 s c n).2.2.1 i = (stepS serve st0 s c (i + 1)).2.1
  | 0, i, h => by omega
  | n + 1, i, h => by
    have hl := stepS_len serve st0 s c n
    have e : (stepS serve st0 s c (n + 1)).2.2.1 = (stepS serve st0 s c n).2.2.1 ++ [(stepS serve st0 s c (n + 1)).2.1] := rfl
    rw [e]
    by_cases hi : i < n
    · have ih := stepS_rL serve st0 s c n i hi
      rw [rL_get _ _ (by omega)] at ih
      rw [rL_get _ _ (by simp; omega), List.getElem_append_left (by omega)]
      exact ih
    · obtain rfl : i = n := by omega
      rw [rL_get _ _ (by simp; omega), List.getElem_append_right (by omega)]
      simp [hl]
theorem stepS_now {σ : Type} (serve : σ → List Int → Int → σ × List Int) (st0 : σ) (s c : List Int) (n : Nat) : ∀ i, i ≤ n → nowAt s (stepS serve st0 s c n).2.2.1 i = (stepS serve st0 s c i).2.1
  | 0, _ => rfl
  | i + 1, h => stepS_rL serve st0 s c n i (by omega)
theorem stepS_costTo {σ : Type} (serve : σ → List Int → Int → σ × List Int) (st0 : σ) (s c : List Int) (n : Nat) : ∀ i, i ≤ n → costTo s (stepS serve st0 s c n).2.2.1 i = (stepS serve st0 s c i).2.2.2
  | 0, _ => rfl
  | i + 1, h => by
    have ih := stepS_costTo serve st0 s c n i (by omega)
    simp only [costTo]
    rw [ih, stepS_now serve st0 s c n i (by omega), stepS_rL serve st0 s c n i (by omega)]
    rfl
theorem stepS_sched {σ : Type} {serve : σ → List Int → Int → σ × List Int} {st0 : σ} {s c : List Int} (h1 : 1 ≤ s.length) (h3 : s.length ≤ 3) (h : ∀ i, i < c.length → (stepS serve st0 s c (i + 1)).2.1 ∈ allP s.length ∧ rd c i ∈ (stepS serve st0 s c (i + 1)).2.1) :
    schedB s.length c (stepS serve st0 s c c.length).2.2.1 = true := by
  simp only [schedB, Bool.and_eq_true, decide_eq_true_eq]
  refine ⟨stepS_len serve st0 s c c.length, fun j hj => ?_⟩
  rw [stepS_len] at hj
  have := h j hj
  simp only [rowB, Bool.and_eq_true, decide_eq_true_eq]
  rw [stepS_rL serve st0 s c c.length j hj]
  exact ⟨⟨posB_of_allP h1 h3 this.1, allP_len this.1⟩, this.2⟩

/-! ### the careful way, by hand -/
def mid (a b x : Int) : Int := if b - x ≤ x - a then b - x else x - a
theorem mid_cases (a b x : Int) : (b - x ≤ x - a ∧ mid a b x = b - x) ∨ (x - a ≤ b - x ∧ mid a b x = x - a) := by unfold mid; split <;> omega
theorem careful1 (a x : Int) : carefulF [a] x = [x] := by
  unfold carefulF
  by_cases h : x = a
  · subst h; simp
  · by_cases h2 : x < a
    · simp [h, rd, h2]
    · have h3 : a < x := by omega
      simp [h, rd, h2, h3]
theorem careful2 (a b x : Int) (_ : a ≤ b) : carefulF [a, b] x = if x = a ∨ x = b then [a, b] else if x < a then [x, b] else if b < x then [a, x] else [a + mid a b x, b - mid a b x] := by
  unfold carefulF
  by_cases h : x = a ∨ x = b
  · rw [if_pos h, if_pos (by simpa using h)]
  · rw [if_neg h, if_neg (by simpa using h)]
    by_cases h2 : x < a
    · simp [rd, h2]
    · by_cases h3 : b < x
      · simp [rd, h2, h3]
      · have h4 : x < b := by omega
        simp [rd, h2, h3, upI, idxP, h4, stepI, mid]
theorem careful3 (a b c x : Int) (_ : a ≤ b) (_ : b ≤ c) : carefulF [a, b, c] x = if x = a ∨ x = b ∨ x = c then [a, b, c] else if x < a then [x, b, c] else if c < x then [a, b, x] else if x < b then [a + mid a b x, b - mid a b x, c] else [a, b + mid b c x, c - mid b c x] := by
  unfold carefulF
  by_cases h : x = a ∨ x = b ∨ x = c
  · rw [if_pos h, if_pos (by simpa using h)]
  · rw [if_neg h, if_neg (by simpa using h)]
    by_cases h2 : x < a
    · simp [rd, h2]
    · by_cases h3 : c < x
      · simp [rd, h2, h3]
      · by_cases h4 : x < b
        · simp [rd, h2, h3, upI, idxP, h4, stepI, mid]
        · have h5 : x < c := by omega
          simp [rd, h2, h3, upI, idxP, h4, h5, stepI, mid]
/-- What positions are, by hand. -/
inductive Shape : Nat → List Int → Prop
  | one (a : Int) : 0 ≤ a → a ≤ 30 → Shape 1 [a]
  | two (a b : Int) : 0 ≤ a → a ≤ b → b ≤ 30 → Shape 2 [a, b]
  | three (a b c : Int) : 0 ≤ a → a ≤ b → b ≤ c → c ≤ 30 → Shape 3 [a, b, c]
theorem shape_of {k : Nat} (h1 : 1 ≤ k) (h3 : k ≤ 3) {p : List Int} (h : p ∈ allP k) : Shape k p := by
  have hp := allP_pos h
  have hs := allP_sorted h
  have hl := hp.len
  have ha := hp.all
  match p, hl with
  | [], e => simp at e; omega
  | [a], e =>
    simp at e ha; subst e
    exact .one a ha.1 ha.2
  | [a, b], e =>
    simp at e ha hs; subst e
    exact .two a b ha.1.1 hs ha.2.2
  | [a, b, c], e =>
    simp at e ha hs; subst e
    exact .three a b c ha.1.1 hs.1.1 hs.2 ha.2.2.2
  | _ :: _ :: _ :: _ :: _, e => simp at e; omega
theorem allP_of_shape {k : Nat} {p : List Int} (h : Shape k p) : p ∈ allP k := by
  cases h with
  | one a h0 h1 => exact allP_of_sorted ⟨rfl, by simp; omega⟩ (by simp)
  | two a b h0 h1 h2 => exact allP_of_sorted ⟨rfl, by simp; omega⟩ (by simp; omega)
  | three a b c h0 h1 h2 h3 => exact allP_of_sorted ⟨rfl, by simp; omega⟩ (by simp; omega)
theorem careful_ok {k : Nat} (kk1 : 1 ≤ k) (kk3 : k ≤ 3) {p : List Int} (h : p ∈ allP k) {x : Int} (hx : 0 ≤ x ∧ x ≤ 30) : carefulF p x ∈ allP k ∧ x ∈ carefulF p x := by
  cases shape_of kk1 kk3 h with
  | one a h0 h1 =>
    rw [careful1]
    exact ⟨allP_of_shape (.one x hx.1 hx.2), by simp⟩
  | two a b h0 h1 h2 =>
    rw [careful2 a b x h1]
    have := mid_cases a b x
    split
    · exact ⟨allP_of_shape (.two a b h0 h1 h2), by simpa⟩
    · split
      · exact ⟨allP_of_shape (.two x b hx.1 (by omega) h2), by simp⟩
      · split
        · exact ⟨allP_of_shape (.two a x h0 (by omega) hx.2), by simp⟩
        · exact ⟨allP_of_shape (.two _ _ (by omega) (by omega) (by omega)), by simp; omega⟩
  | three a b c h0 h1 h2 h3 =>
    rw [careful3 a b c x h1 h2]
    have := mid_cases a b x
    have := mid_cases b c x
    split
    · exact ⟨allP_of_shape (.three a b c h0 h1 h2 h3), by simpa⟩
    · split
      · exact ⟨allP_of_shape (.three x b c hx.1 (by omega) h2 h3), by simp⟩
      · split
        · exact ⟨allP_of_shape (.three a b x h0 h1 (by omega) hx.2), by simp⟩
        · split
          · exact ⟨allP_of_shape (.three _ _ _ (by omega) (by omega) (by omega) (by omega)), by simp; omega⟩
          · exact ⟨allP_of_shape (.three _ _ _ (by omega) (by omega) (by omega) (by omega)), by simp; omega⟩
theorem near_ok {k : Nat} (h1 : 1 ≤ k) {p : List Int} (h : p ∈ allP k) {x : Int} (hx : 0 ≤ x ∧ x ≤ 30) : nearF p x ∈ allP k ∧ x ∈ nearF p x := by
  have hl := allP_len h
  refine ⟨set_allP h _ hx, srt_mem.2 (List.mem_set ?_ _)⟩
  rcases nearI_lt p x p.length with h2 | h2 <;> omega
theorem fore_ok {k : Nat} (h1 : 1 ≤ k) (h3 : k ≤ 3) {f : List Int → Int} {B : Int} (hf : ∀ p ∈ allP k, 0 ≤ f p ∧ f p ≤ B) {p : List Int} (h : p ∈ allP k) {x : Int} (hx : 0 ≤ x ∧ x ≤ 30) : forP k f p x ∈ allP k ∧ x ∈ forP k f p x := by
  have := chF_found h1 hx (f := fun q => aftF k f x q + distF p q) (fun q hq => by
      have h4 := aftF_range h1 hf hx hq
      have h5 := distF_range (allP_pos h) (allP_pos hq) h3
      exact Int.add_nonneg h4.1 h5.1)
  exact ⟨this.1, this.2.1⟩
theorem cS_ok {s c : List Int} (hh : hallB s c = true) : ∀ i, i ≤ c.length → (stepS cS () s c i).2.1 ∈ allP s.length
  | 0, _ => posB_allP (posB_s hh)
  | i + 1, h => by
    obtain ⟨⟨hpos, hk1, hk3⟩, h40, hcs⟩ := hallB_parts hh
    exact (careful_ok hk1 hk3 (cS_ok hh i (by omega)) (hcs _ (rd_mem (by omega)))).1
theorem nS_ok {s c : List Int} (hh : hallB s c = true) : ∀ i, i ≤ c.length → (stepS nS () s c i).2.1 ∈ allP s.length
  | 0, _ => posB_allP (posB_s hh)
  | i + 1, h => by
    obtain ⟨⟨hpos, hk1, hk3⟩, h40, hcs⟩ := hallB_parts hh
    exact (near_ok hk1 (nS_ok hh i (by omega)) (hcs _ (rd_mem (by omega)))).1
theorem fS_ok {s c : List Int} (hh : hallB s c = true) : ∀ i, i ≤ c.length → (stepS (fS s.length) (0, distF s) s c i).2.1 ∈ allP s.length
  | 0, _ => posB_allP (posB_s hh)
  | i + 1, h => by
    obtain ⟨⟨hpos, hk1, hk3⟩, h40, hcs⟩ := hallB_parts hh
    simp only [stepS, fS]
    rw [fS_state s c i]
    exact (fore_ok hk1 hk3 (workAt_range hk1 hk3 hpos hcs i (by omega)) (fS_ok hh i (by omega)) (hcs _ (rd_mem (by omega)))).1
theorem careful_sched {s c : List Int} (hh : hallB s c = true) : schedB s.length c (runL cS s c) = true := by
  obtain ⟨⟨hpos, hk1, hk3⟩, h40, hcs⟩ := hallB_parts hh
  exact stepS_sched hk1 hk3 fun i hi => careful_ok hk1 hk3 (cS_ok hh i (by omega)) (hcs _ (rd_mem hi))
theorem nearest_sched {s c : List Int} (hh : hallB s c = true) : schedB s.length c (runL nS s c) = true := by
  obtain ⟨⟨hpos, hk1, hk3⟩, h40, hcs⟩ := hallB_parts hh
  exact stepS_sched hk1 hk3 fun i hi => near_ok hk1 (nS_ok hh i (by omega)) (hcs _ (rd_mem hi))
theorem foresee_sched {s c : List Int} (hh : hallB s c = true) : schedB s.length c (forL s c) = true := by
  obtain ⟨⟨hpos, hk1, hk3⟩, h40, hcs⟩ := hallB_parts hh
  refine stepS_sched hk1 hk3 fun i hi => ?_
  simp only [stepS, fS]
  rw [fS_state s c i]
  exact fore_ok hk1 hk3 (workAt_range hk1 hk3 hpos hcs i (by omega)) (fS_ok hh i (by omega)) (hcs _ (rd_mem (by omega)))
theorem runC_cost (serve : Unit → List Int → Int → Unit × List Int) (s c : List Int) : costTo s (runL serve s c) c.length = runC serve s c := stepS_costTo serve () s c c.length c.length (Nat.le_refl _)
theorem forC_cost (s c : List Int) : costTo s (forL s c) c.length = forC s c := stepS_costTo (fS s.length) (0, distF s) s c c.length c.length (Nat.le_refl _)
theorem run_len (serve : Unit → List Int → Int → Unit × List Int) (s c : List Int) : (runL serve s c).length = c.length := stepS_len serve () s c c.length
theorem for_len (s c : List Int) : (forL s c).length = c.length := stepS_len (fS s.length) (0, distF s) s c c.length

/-! ### the competitive bound -/
theorem pot1 (a b : Int) : potF [a] [b] = ab a b := by simp [potF, pS, qS, distF_dR, dR]
theorem pot2 (a b c d : Int) : potF [a, b] [c, d] = 2 * (ab a c + ab b d) + (b - a) := by simp [potF, pS, qS, distF_dR, dR, rd]
theorem pot3 (a b c d e f : Int) : potF [a, b, c] [d, e, f] = 3 * (ab a d + ab b e + ab c f) + (b - a) + (c - a) + (c - b) := by simp [potF, pS, qS, distF_dR, dR, rd]; omega
/-- One step of the careful way, against positions with the floor. -/
theorem comp_serve {k : Nat} (kk1 : 1 ≤ k) (kk3 : k ≤ 3) {p r : List Int} (hp : p ∈ allP k) (hr : r ∈ allP k) {x : Int} (hx : 0 ≤ x ∧ x ≤ 30) (hxr : x ∈ r) : dR p (carefulF p x) + potF (carefulF p x) r ≤ potF p r := by
  cases shape_of kk1 kk3 hp with
  | one a h0 h1 =>
    cases shape_of (by omega) (by omega) hr with
    | one d _ _ =>
    rw [careful1, pot1, pot1]
    simp only [List.mem_singleton] at hxr
    simp only [dR]
    have := ab_cases a x; have := ab_cases x d; have := ab_cases a d
    omega
  | two a b h0 h1 h2 =>
    cases shape_of (by omega) (by omega) hr with
    | two d e g0 g1 g2 =>
    rw [careful2 a b x h1]
    have := mid_cases a b x
    simp only [List.mem_cons, List.not_mem_nil, or_false] at hxr
    split
    · rw [pot2]; simp only [dR, ab_self]; omega
    · split
      · rw [pot2, pot2]; simp only [dR, ab_self]
        have := ab_cases a x; have := ab_cases x d; have := ab_cases a d
        omega
      · split
        · rw [pot2, pot2]; simp only [dR, ab_self]
          have := ab_cases b x; have := ab_cases x e; have := ab_cases b e
          omega
        · rw [pot2, pot2]; simp only [dR]
          have := ab_cases a (a + mid a b x); have := ab_cases b (b - mid a b x)
          have := ab_cases (a + mid a b x) d; have := ab_cases (b - mid a b x) e
          have := ab_cases a d; have := ab_cases b e
          omega
  | three a b c h0 h1 h2 h3 =>
    cases shape_of (by omega) (by omega) hr with
    | three d e f g0 g1 g2 g3 =>
    rw [careful3 a b c x h1 h2]
    have m1 := mid_cases a b x
    have m2 := mid_cases b c x
    simp only [List.mem_cons, List.not_mem_nil, or_false] at hxr
    split
    · rw [pot3]; simp only [dR, ab_self]; omega
    · split
      · rw [pot3, pot3]; simp only [dR, ab_self]
        have := ab_cases a x; have := ab_cases x d; have := ab_cases a d
        omega
      · split
        · rw [pot3, pot3]; simp only [dR, ab_self]
          have := ab_cases c x; have := ab_cases x f; have := ab_cases c f
          omega
        · split
          · rw [pot3, pot3]; simp only [dR, ab_self]
            clear m2
            have := ab_cases a (a + mid a b x); have := ab_cases b (b - mid a b x)
            have := ab_cases (a + mid a b x) d; have := ab_cases (b - mid a b x) e
            have := ab_cases a d; have := ab_cases b e
            omega
          · rw [pot3, pot3]; simp only [dR, ab_self]
            clear m1
            have := ab_cases b (b + mid b c x); have := ab_cases c (c - mid b c x)
            have := ab_cases (b + mid b c x) e; have := ab_cases (c - mid b c x) f
            have := ab_cases b e; have := ab_cases c f
            omega
theorem pot_move {k : Nat} {p q r : List Int} (hp : p ∈ allP k) (hq : q ∈ allP k) (hr : r ∈ allP k) : potF p r ≤ potF p q + k * dR q r := by
  unfold potF
  have lp := allP_len hp
  rw [distF_dR _ _ (by rw [lp, allP_len hr]), distF_dR _ _ (by rw [lp, allP_len hq]), lp]
  have h := dR_tri p q r (by rw [lp, allP_len hq])
  have h2 : (k : Int) * dR p r ≤ k * (dR p q + dR q r) := Int.mul_le_mul_of_nonneg_left h (by omega)
  rw [Int.mul_add] at h2
  omega
/-- A step of the careful way, beside a step of any schedule. -/
theorem comp_step {k : Nat} (h1 : 1 ≤ k) (h3 : k ≤ 3) {p q r : List Int} (hp : p ∈ allP k) (hq : q ∈ allP k) (hr : r ∈ allP k) {x : Int} (hx : 0 ≤ x ∧ x ≤ 30) (hxr : x ∈ r) : distF p (carefulF p x) + potF (carefulF p x) r - potF p q ≤ k * distF q r := by
  have a := comp_serve h1 h3 hp hr hx hxr
  have b := pot_move hp hq hr
  rw [distF_dR _ _ (by rw [allP_len hp, allP_len (careful_ok h1 h3 hp hx).1]), distF_dR _ _ (by rw [allP_len hq, allP_len hr])]
  omega
theorem pot_nn {k : Nat} (h1 : 1 ≤ k) (h3 : k ≤ 3) {p q : List Int} (hp : p ∈ allP k) (hq : q ∈ allP k) : 0 ≤ potF p q := by
  cases shape_of h1 h3 hp with
  | one a h0 h1 =>
    cases shape_of (by omega) (by omega) hq with
    | one d _ _ => rw [pot1]; exact ab_nn a d
  | two a b h0 h1 h2 =>
    cases shape_of (by omega) (by omega) hq with
    | two d e g0 g1 g2 => rw [pot2]; have := ab_nn a d; have := ab_nn b e; omega
  | three a b c h0 h1 h2 h3 =>
    cases shape_of (by omega) (by omega) hq with
    | three d e f g0 g1 g2 g3 => rw [pot3]; have := ab_nn a d; have := ab_nn b e; have := ab_nn c f; omega
/-- The careful way costs at most the number of lifts times the cost of any schedule, and the potential at first. -/
theorem comp_sum {s c : List Int} (hh : hallB s c = true) {l : List (List Int)} (hl : schedB s.length c l = true) : ∀ j, j ≤ c.length → (stepS cS () s c j).2.2.2 + potF (stepS cS () s c j).2.1 (nowAt s l j) ≤ s.length * costTo s l j + potF s s
  | 0, _ => by simp [stepS, nowAt, costTo]
  | j + 1, h => by
    obtain ⟨⟨hpos, hk1, hk3⟩, h40, hcs⟩ := hallB_parts hh
    have ih := comp_sum hh hl j (by omega)
    obtain ⟨_, hr⟩ := sched_rows hl
    obtain ⟨r1, r2⟩ := row_allP (hr j (by omega))
    have := comp_step hk1 hk3 (cS_ok hh j (by omega)) (now_allP hh j (fun i hi => hr i (by omega))) r1 (hcs _ (rd_mem (by omega))) r2
    show (stepS cS () s c j).2.2.2 + distF (stepS cS () s c j).2.1 (carefulF (stepS cS () s c j).2.1 (rd c j)) + potF (carefulF (stepS cS () s c j).2.1 (rd c j)) (rL l j) ≤ (s.length : Int) * (costTo s l j + distF (nowAt s l j) (rL l j)) + potF s s
    rw [Int.mul_add]
    omega
theorem comp_all {s c : List Int} (hh : hallB s c = true) {l : List (List Int)} (hl : schedB s.length c l = true) : runC cS s c ≤ s.length * costTo s l c.length + potF s s := by
  obtain ⟨⟨hpos, hk1, hk3⟩, h40, hcs⟩ := hallB_parts hh
  obtain ⟨_, hr⟩ := sched_rows hl
  have h1 := comp_sum hh hl c.length (Nat.le_refl _)
  have h2 := pot_nn hk1 hk3 (cS_ok hh c.length (Nat.le_refl _)) (now_allP hh c.length hr)
  unfold runC
  omega
end Go.Proofs.Ythadaajgjloogaa.L

namespace Go.Proofs.Ythadaajgjloogaa.L
open Go.RowKit Go.Shelf Go.Proofs.YthadaajgjloogaaW.PrintWords Go.Proofs.YthadaajgjloogaaW.PrintLast Go.Proofs.YthadaajgjloogaaW.PrintMore
attribute [local go_sem] max2_int min2_int max_two min_two max_three min_three max_four min_four
attribute [local go_sem] Oper.semAt_some

/-! ### rows that share: a slice of headers, each row read beside it -/
theorem F_of_C {W : World} {A : Option Addr} {n : Nat} {l : List Int} (h : Kd.C (Kd.int .i64) W A n l) (ok : Nat → Prop) (hok : ∀ k, k < W.heap.size → ok k) : Kd.F (Kd.int .i64) W ok A n l :=
  fun _ hW => (Kd.heap_int .i64).C (fun k hk => hW k (hok k hk) hk) h
abbrev Hdr := Option Addr × Nat × Nat
abbrev hdK : Kd Hdr := Kd.scalar (fun h => Value.slice h.1 h.2.1 h.2.2) (fun _ => rfl)
structure HdOk (W : World) (v : Value) (h : Hdr) (row : List Int) : Prop where
  n : h.2.1 = row.length
  c : row.length ≤ h.2.2
  F : Kd.F (Kd.int .i64) W (fun k => some k ≠ v.ownBlock) h.1 row.length row
structure Al (W : World) (B : Nat) (v : Value) (rows : List (List Int)) : Prop where
  ex : ∃ hs : List Hdr, Kd.R hdK 22 W B (fun x => B ≤ x) v hs ∧ hs.length = rows.length ∧ ∀ (i : Nat) (h1 : i < hs.length) (h2 : i < rows.length), HdOk W v hs[i] rows[i]
theorem Al.nil (W : World) (B : Nat) : Al W B (.slice none 0 0) [] := ⟨[], Kd.R_nil _ _ _ _ _, rfl, fun i h1 _ => by simp at h1⟩
theorem Al.lt {W : World} {B : Nat} {v : Value} {rows : List (List Int)} (h : Al W B v rows) : ∀ k, v.ownBlock = some k → B ≤ k ∧ k < W.heap.size := by
  obtain ⟨hs, h1, _⟩ := h.ex
  obtain ⟨_, ho⟩ := Kd.R_own h1
  exact fun k hk => ⟨own_base ho k hk, own_lt ho k hk⟩
theorem Al.below {W W2 : World} {B : Nat} {v : Value} {rows : List (List Int)} (h : Al W B v rows) (hb : Below W.heap.size W W2) : Al W2 B v rows := by
  obtain ⟨hs, h1, h2, h3⟩ := h.ex
  exact ⟨hs, Kd.R_below h1 hb, h2, fun i a b => ⟨(h3 i a b).n, (h3 i a b).c, Kd.F_below (h3 i a b).F hb⟩⟩
theorem Al.form {W : World} {B : Nat} {v : Value} {rows : List (List Int)} (h : Al W B v rows) : ∃ A c, v = .slice A rows.length c ∧ rows.length ≤ c ∧ Kd.C (Kd.slice 3 (Kd.int .i64)) W A rows.length rows := by
  obtain ⟨hs, h1, h2, h3⟩ := h.ex
  obtain ⟨A, c, rfl, hc, hC⟩ := Kd.R_reads h1
  rw [h2] at hc hC ⊢
  refine ⟨A, c, rfl, hc, rfl, hC.2.1, fun hn => ?_⟩
  obtain ⟨ad, e, hcell⟩ := hC.2.2 hn
  refine ⟨ad, e, fun j p hj => ?_⟩
  obtain ⟨hj1, hj2⟩ := List.getElem?_eq_some_iff.1 hj
  obtain ⟨cs, l1, l2, l3⟩ := hcell j hs[j] (List.getElem?_eq_getElem (by omega))
  have ho := h3 j (by omega) hj1
  rw [hj2] at ho
  refine ⟨cs, l1, ⟨hs[j].1, hs[j].2.2, ?_, ho.c, Kd.F_now ho.F⟩, l3⟩
  rw [← ho.n]
  exact l2
/-- One row more. -/
theorem Al.snoc {W W1 : World} {B : Nat} {v v1 : Value} {rows : List (List Int)} {hs : List Hdr} {A : Option Addr} {c : Nat} {row : List Int}
    (h2 : hs.length = rows.length) (h3 : ∀ (i : Nat) (h1 : i < hs.length) (h2 : i < rows.length), HdOk W v hs[i] rows[i])
    (hr : Kd.R hdK 22 W1 B (fun x => B ≤ x) v1 (hs ++ [(A, row.length, c)])) (hF : Kd.F (Kd.int .i64) W (fun k => some k ≠ v.ownBlock) A row.length row) (hc : row.length ≤ c)
    (hg : W.grownBy W1 v.ownBlock) (hat : v1.ownBlock = v.ownBlock ∨ ∃ b, v1.ownBlock = some b ∧ W.heap.size ≤ b) : Al W1 B v1 (rows ++ [row]) := by
  have key : ∀ {A : Option Addr} {row : List Int}, Kd.F (Kd.int .i64) W (fun k => some k ≠ v.ownBlock) A row.length row → Kd.F (Kd.int .i64) W1 (fun k => some k ≠ v1.ownBlock) A row.length row := fun hF =>
    Kd.F_mono (Kd.F_after (ok := fun _ => True) (Kd.F_mono hF fun k hk => ⟨trivial, hk⟩) hg hat) fun k hk => hk.2
  refine ⟨_, hr, by simp [h2], fun i a b => ?_⟩
  by_cases hi : i < hs.length
  · rw [List.getElem_append_left hi, List.getElem_append_left (by omega)]
    exact ⟨(h3 i hi (by omega)).n, (h3 i hi (by omega)).c, key (h3 i hi (by omega)).F⟩
  · have : i = hs.length := by simp at a; omega
    subst this
    rw [List.getElem_append_right (Nat.le_refl _), List.getElem_append_right (by omega)]
    simp only [Nat.sub_self, List.getElem_cons_zero, h2]
    exact ⟨rfl, hc, key hF⟩

/-! ### has (63) -/
theorem has_l0 (l : List Int) (x : Int) (hl : l.length ≤ 1000) : ∀ (d i : Nat), i + d = l.length → PLiftsServes.turndownref07_has.l0 (d + 1) l x i = some (decide (x ∈ l.drop i))
  | 0, i, h => by
    rw [PLiftsServes.turndownref07_has.l0, if_neg (by omega), List.drop_eq_nil_of_le (by omega)]
    simp
  | d + 1, i, h => by
    have hi : i < l.length := by omega
    have e : rd l i = l[i] := by simp [rd, List.getD, hi]
    rw [PLiftsServes.turndownref07_has.l0, if_pos (by omega), if_pos (by omega), List.drop_eq_getElem_cons hi, e]
    by_cases hx : l[i] = x
    · rw [if_pos hx]; simp [hx]
    · rw [if_neg hx, w64 _ (by omega), show (i : Int) + 1 = ((i + 1 : Nat) : Int) by omega, has_l0 l x hl d (i + 1) (by omega)]
      simp only [List.mem_cons, Option.some.injEq, decide_eq_decide]
      exact ⟨Or.inr, fun h => h.resolve_left (Ne.symm hx)⟩
theorem refHas_calls (A : Option Addr) (c : Nat) (l : List Int) (x : Int) (w : World) (hr : Kd.C (Kd.int .i64) w A l.length l) (hc : l.length ≤ c) (hl : l.length ≤ 1000) :
    Calls Try.prog 63 #[.slice A l.length c, .int .i64 x] w fun e w' => e = .returned (.bool (decide (x ∈ l))) ∧ Drawn0 w w' :=
  PLiftsServes.turndownref07_has.calls (l.length + 1) A c l x _ w hr hc (by have := has_l0 l x hl l.length 0 (by omega); simpa [PLiftsServes.turndownref07_has.f] using this)

/-! ### what a way of serving hands back: a row of its own, or the one that it received -/
def Served (w : World) (A : Option Addr) (l r : List Int) (e : Ending) (w' : World) : Prop :=
  ∃ A' c', e = .returned (.slice A' r.length c') ∧ r.length ≤ c' ∧ (∀ ok : Nat → Prop, Kd.F (Kd.int .i64) w ok A l.length l → Kd.F (Kd.int .i64) w' (fun k => ok k ∨ w.heap.size ≤ k) A' r.length r) ∧ Below w.heap.size w w'
theorem served_new {w w' : World} {A : Option Addr} {l r : List Int} {v : Value} (hr : Kd.R (Kd.int .i64) 3 w' w.heap.size (fun x => w.heap.size ≤ x) v r) (hb : Below w.heap.size w w') : Served w A l r (.returned v) w' := by
  obtain ⟨A', c', rfl, hc, _⟩ := Kd.R_reads hr
  exact ⟨A', c', rfl, hc, fun ok _ => Kd.F_mono (Kd.R_F hr) fun k hk => Or.inr hk, hb⟩
theorem served_old {w w' : World} {A : Option Addr} {l : List Int} {c : Nat} (hc : l.length ≤ c) (hb : Below w.heap.size w w') : Served w A l l (.returned (.slice A l.length c)) w' :=
  ⟨A, c, rfl, hc, fun _ h => Kd.F_mono (Kd.F_below h hb) fun _ hk => Or.inl hk, hb⟩
end Go.Proofs.Ythadaajgjloogaa.L

namespace Go.Proofs.Ythadaajgjloogaa.L
open Go.RowKit Go.Shelf Go.Proofs.YthadaajgjloogaaW.PrintWords Go.Proofs.YthadaajgjloogaaW.PrintLast Go.Proofs.YthadaajgjloogaaW.PrintMore
attribute [local go_sem] max2_int min2_int max_two min_two max_three min_three max_four min_four
attribute [local go_sem] Oper.semAt_some

/-! ### the reference's Serve (64) -/
theorem moved_srt {l r : List Int} {i : Nat} {x : Int} (h : i < l.length) (e : l.set i x = r) (hs : r.Pairwise (· ≤ ·)) : mvF l i x = r := by
  rw [mvF_srt h, e, srt_of_sorted hs]
set_option maxRecDepth 100000 in
set_option maxHeartbeats 4000000 in
theorem serve_has (A : Option Addr) (c : Nat) (l : List Int) (x : Int) (w : World) (hr : Kd.C (Kd.int .i64) w A l.length l) (hc : l.length ≤ c) (hl : l.length ≤ 1000) (hx : x ∈ l) :
    Calls Try.prog 64 #[.slice A l.length c, .int .i64 x] w (Served w A l (carefulF l x)) := by
  rw [show carefulF l x = l from by simp [carefulF, hx]]
  have HH := refHas_calls A c l x w hr hc hl
  rw [decide_eq_true hx] at HH
  have HH := Aside0.mk HH
  have HC := Aside0.mk hc
  clear hr hc hl hx
  go_enter Try.func64, Try.ntmps64
  go_wp2_with (go_at_call 63; refine HH.out.mono ?_; rintro e W ⟨rfl, hd⟩; have HB := Aside0.mk hd.below; clear hd)
  go_ret
  exact served_old HC.out HB.out
set_option maxRecDepth 100000 in
set_option maxHeartbeats 4000000 in
theorem serve_low (A : Option Addr) (c : Nat) (l : List Int) (x : Int) (w : World) (hr : Kd.C (Kd.int .i64) w A l.length l) (hc : l.length ≤ c) (hl0 : 1 ≤ l.length) (hl : l.length ≤ 100) (hx : x ∉ l) (hlo : x < rd l 0) (hs : (carefulF l x).Pairwise (· ≤ ·)) :
    Calls Try.prog 64 #[.slice A l.length c, .int .i64 x] w (Served w A l (carefulF l x)) := by
  have HE : Aside0 (mvF l 0 x = carefulF l x) := ⟨moved_srt (i := 0) (by omega) (by simp [carefulF, hx, hlo]) hs⟩
  have HH := refHas_calls A c l x w hr hc (by omega)
  rw [decide_eq_false hx] at HH
  have HH := Aside0.mk HH
  have HR := Aside0.mk hr
  have HL := Aside0.mk hl
  have hlo' := decide_eq_true hlo
  have hmx := Kd.C_max hr
  have hl1 : (0 : Int) < l.length := by omega
  obtain ⟨ad, e0, h0⟩ := Kd.at_int hr 0 (by omega) (by omega)
  subst e0
  rw [Int.toNat_zero, show ad.add 0 = ad from by simp [Addr.add]] at h0
  have H0 := Aside0.mk h0
  clear hr hc hx hlo hs h0 hl
  go_enter Try.func64, Try.ntmps64
  go_wp2_with (first
    | (go_at_call 63; refine HH.out.mono ?_; rintro e W ⟨rfl, hd⟩; have HB := Aside0.mk hd.below; have h0 := (hd.below.cell (World.block_lt_of_cell? _ _ H0.out)).trans H0.out; clear hd)
    | (go_at_call 85; refine (refMoved_calls (some ad) c l 0 x _ (Kd.C_below HR.out HB.out) HL.out).mono ?_; rintro e W2 ⟨v, rfl, hr2, hb2⟩; have HR2 := Aside0.mk hr2; have HB2 := Aside0.mk (below_step HB.out hb2); clear hr2 hb2))
  go_ret
  exact served_new (by rw [← HE.out]; exact Kd.R_mono (Kd.R_lower HR2.out HB.out.size) (fun q hq => Nat.le_trans HB.out.size hq)) HB2.out
set_option maxRecDepth 100000 in
set_option maxHeartbeats 4000000 in
theorem serve_high (A : Option Addr) (c : Nat) (l : List Int) (x : Int) (w : World) (hr : Kd.C (Kd.int .i64) w A l.length l) (hc : l.length ≤ c) (hl0 : 1 ≤ l.length) (hl : l.length ≤ 100) (hx : x ∉ l) (hlo : ¬ x < rd l 0) (hhi : rd l ((l.length : Int) - 1) < x) (hs : (carefulF l x).Pairwise (· ≤ ·)) :
    Calls Try.prog 64 #[.slice A l.length c, .int .i64 x] w (Served w A l (carefulF l x)) := by
  have HE : Aside0 (mvF l ((l.length : Int) - 1) x = carefulF l x) := ⟨by
    rw [show (l.length : Int) - 1 = ((l.length - 1 : Nat) : Int) by omega]
    exact moved_srt (by omega) (by simp [carefulF, hx, hlo, hhi]) hs⟩
  have HH := refHas_calls A c l x w hr hc (by omega)
  rw [decide_eq_false hx] at HH
  have HH := Aside0.mk HH
  have HR := Aside0.mk hr
  have HL := Aside0.mk hl
  have hlo' := decide_eq_false hlo
  have hhi' := decide_eq_true hhi
  have hmx := Kd.C_max hr
  have hl1 : (0 : Int) < l.length := by omega
  obtain ⟨ad, e0, h0⟩ := Kd.at_int hr 0 (by omega) (by omega)
  subst e0
  obtain ⟨_, e1, h1⟩ := Kd.at_int hr ((l.length : Int) - 1) (by omega) (by omega)
  cases e1
  have b0 : (0 : Int) ≤ (l.length : Int) - 1 := by omega
  have b1 : (l.length : Int) - 1 < l.length := by omega
  have bz : ((l.length : Int) - 1).toNat = l.length - 1 := by omega
  rw [bz] at h1
  rw [Int.toNat_zero, show ad.add 0 = ad from by simp [Addr.add]] at h0
  have H0 := Aside0.mk h0
  have H1 := Aside0.mk h1
  clear hr hc hx hlo hs h0 hl hhi h1
  go_enter Try.func64, Try.ntmps64
  go_wp2_with (first
    | (go_at_call 63; refine HH.out.mono ?_; rintro e W ⟨rfl, hd⟩; have HB := Aside0.mk hd.below; have h0 := (hd.below.cell (World.block_lt_of_cell? _ _ H0.out)).trans H0.out; have h1 := (hd.below.cell (World.block_lt_of_cell? _ _ H1.out)).trans H1.out; clear hd)
    | (go_at_call 85; refine (refMoved_calls (some ad) c l ((l.length : Int) - 1) x _ (Kd.C_below HR.out HB.out) HL.out).mono ?_; rintro e W2 ⟨v, rfl, hr2, hb2⟩; have HR2 := Aside0.mk hr2; have HB2 := Aside0.mk (below_step HB.out hb2); clear hr2 hb2))
  go_ret
  exact served_new (by rw [← HE.out]; exact Kd.R_mono (Kd.R_lower HR2.out HB.out.size) (fun q hq => Nat.le_trans HB.out.size hq)) HB2.out
set_option maxRecDepth 100000 in
set_option maxHeartbeats 4000000 in
theorem serve_mid {k : Nat} (hk1 : 1 ≤ k) (hk3 : k ≤ 3) (A : Option Addr) (c : Nat) (l : List Int) (x : Int) (w : World) (hr : Kd.C (Kd.int .i64) w A l.length l) (hc : l.length ≤ c) (hp : l ∈ allP k) (hx0 : 0 ≤ x ∧ x ≤ 30) (hx : x ∉ l) (hlo : ¬ x < rd l 0) (hhi : ¬ rd l ((l.length : Int) - 1) < x) :
    Calls Try.prog 64 #[.slice A l.length c, .int .i64 x] w (Served w A l (carefulF l x)) := by
  have hlen := allP_len hp
  obtain ⟨u, hu, hu1, huk, hA, hB⟩ := up_spec hk1 hlen hx hlo (by rw [← hlen]; exact hhi)
  have hfl := (allP_pos hp).fl
  have hst : (if x - rd l ((u : Int) - 1) < rd l u - x then x - rd l ((u : Int) - 1) else rd l u - x) = stepI l x := by
    unfold stepI; rw [hu]; split <;> split <;> omega
  have hsr : 0 ≤ stepI l x ∧ stepI l x ≤ 30 := by
    have h1 := hfl u (by omega)
    have h2 := hfl (u - 1) (by omega)
    rw [show ((u - 1 : Nat) : Int) = (u : Int) - 1 by omega] at h2
    rw [← hst]; split <;> omega
  have HF : Aside0 ((l.set u (rd l u - stepI l x)).set (u - 1) (rd l ((u : Int) - 1) + stepI l x) = carefulF l x) := ⟨by simp [carefulF, hx, hlo, hhi, hu]⟩
  have HLT : Aside0 (∀ j : Nat, j < u → rd l j < x) := ⟨fun j hj => by
    have hs := allP_sorted hp
    rw [List.pairwise_iff_getElem] at hs
    have h2 : rd l j ≤ rd l ((u - 1 : Nat) : Int) := by
      by_cases e : j = u - 1
      · rw [e]; exact Int.le_refl _
      · have := hs j (u - 1) (by omega) (by omega) (by omega)
        simpa [rd, List.getD, show j < l.length by omega, show u - 1 < l.length by omega] using this
    rw [show ((u - 1 : Nat) : Int) = (u : Int) - 1 by omega] at h2
    omega⟩
  generalize stepI l x = st at *
  obtain ⟨st0, st1⟩ := hsr
  have HH := refHas_calls A c l x w hr hc (by omega)
  rw [decide_eq_false hx] at HH
  have HH := Aside0.mk HH
  have HR := Aside0.mk hr
  have hlo' := decide_eq_false hlo
  have hhi' := decide_eq_false hhi
  have hmx := Kd.C_max hr
  have hl1 : (0 : Int) < l.length := by omega
  have hul : u < l.length := by omega
  obtain ⟨ad, e0, h0⟩ := Kd.at_int hr 0 (by omega) (by omega)
  subst e0
  obtain ⟨_, e1, h1⟩ := Kd.at_int hr ((l.length : Int) - 1) (by omega) (by omega)
  cases e1
  obtain ⟨_, e2, h2⟩ := Kd.at_int hr (u : Int) (by omega) (by omega)
  cases e2
  obtain ⟨_, e3, h3⟩ := Kd.at_int hr ((u : Int) - 1) (by omega) (by omega)
  cases e3
  have b0 : (0 : Int) ≤ (l.length : Int) - 1 := by omega
  have b1 : (l.length : Int) - 1 < l.length := by omega
  have bz : ((l.length : Int) - 1).toNat = l.length - 1 := by omega
  have u0 : (0 : Int) ≤ (u : Int) - 1 := by omega
  have uz : ((u : Int) - 1).toNat = u - 1 := by omega
  have ul : (u : Int) - 1 < l.length := by omega
  have hfu := hfl u (by omega)
  have hfv := hfl (u - 1) (by omega)
  rw [show ((u - 1 : Nat) : Int) = (u : Int) - 1 by omega] at hfv
  obtain ⟨fu0, fu1⟩ := hfu
  obtain ⟨fv0, fv1⟩ := hfv
  obtain ⟨x0, x1⟩ := hx0
  rw [bz] at h1
  rw [uz] at h3
  rw [Int.toNat_natCast] at h2
  rw [Int.toNat_zero, show ad.add 0 = ad from by simp [Addr.add]] at h0
  have H0 := Aside0.mk h0
  have H1 := Aside0.mk h1
  have H2 := Aside0.mk h2
  have H3 := Aside0.mk h3
  have HP := Aside0.mk hp
  have HLen : Aside0 (l.length ≤ 3) := ⟨by omega⟩
  have HST := Aside0.mk hst
  have HUU := Aside0.mk hA
  clear hr hx hlo h0 hhi h1 h2 h3 hu hp hst hfl hlen huk hA
  go_enter Try.func64, Try.ntmps64
  go_upto_region 9 with (go_at_call 63; refine HH.out.mono ?_; rintro e W ⟨rfl, hd⟩; have HB := Aside0.mk hd.below; have h0 := (hd.below.cell (World.block_lt_of_cell? _ _ H0.out)).trans H0.out; have h1 := (hd.below.cell (World.block_lt_of_cell? _ _ H1.out)).trans H1.out; clear hd)
  clear h0 h1
  go_loopw [6] (fun v6 wr => ∃ j : Nat, j ≤ u ∧ v6 = .int .i64 j ∧ Aside0 (Below w.heap.size w wr)) (fun v6 _ => u - (intOf v6).toNat)
  case atStart => exact ⟨0, Nat.zero_le _, rfl, HB⟩
  case round =>
    clear HB
    obtain ⟨j, hj, rfl, HB⟩ := hrel
    by_cases hlt : j < u
    · obtain ⟨_, e4, h4⟩ := Kd.at_int (Kd.C_below HR.out HB.out) (j : Int) (by omega) (by omega)
      cases e4
      rw [Int.toNat_natCast] at h4
      have hdec := decide_eq_true (HLT.out j hlt)
      go_wp2
      go_roundw
      case rel => exact ⟨j + 1, by omega, by go_num, HB⟩
      case measure => simp [intOf]; omega
    · obtain rfl : j = u := by omega
      have h2 := (HB.out.cell (World.block_lt_of_cell? _ _ H2.out)).trans H2.out
      have h3 := (HB.out.cell (World.block_lt_of_cell? _ _ H3.out)).trans H3.out
      have hdec : decide (rd l j < x) = false := decide_eq_false (by have := HUU.out; omega)
      have hst := HST.out
      go_upto_region 11 with (fail)
      go_quiet (fail)
      clear hst hdec h2 h3
      go_upto_region 13 with (fail)
      refine wpc_world (fun V => Aside0 (Below w.heap.size w V)) ⟨pw_below_drewN HB.out _⟩ ?_
      clear HB
      rintro V HV
      have HCV := Aside0.mk (Kd.C_below HR.out HV.out)
      have hwz := HV.out.size
      go_upto_region 14 with ((with_reducible refine gate_builtin (b := .append) (xs := #[.tmp 56, .tmp 57]) rfl ?_); at_builtin; refine Kd.R_append_row (Value.int .i64) 0 (h1 := fun _ => rfl) (w0 := V) w.heap.size rfl (.tmp 56) (.tmp 57) 22 3 (.int .i64 0) 8 rfl Try.underlying22 info3 rfl (by omega) (.slice none 0 0) ([] : List Int) l (some ad) l.length c (fun x => w.heap.size ≤ x) rfl rfl (fun _ h => Nat.le_trans hwz h) (Kd.R_nil _ _ _ _ _) HCV.out (Below.refl _ _) hwz (by have := HLen.out; simp; omega) ?_; intro v1 w1 hR hB hg hat; have HR1 := Aside0.mk hR; have HB1 := Aside0.mk (HV.out.trans hB); clear hR hB hg hat)
      obtain ⟨g, cap, e5, hg1, _, _⟩ := Kd.R_form HR1.out (by simp; omega)
      rw [List.nil_append] at e5 HR1
      subst e5
      have HG := Aside0.mk hg1
      clear hg1 hwz
      obtain ⟨hcell, hfr⟩ := Kd.R_celln 0 HR1.out (j : Int) (by omega) (by omega)
      rw [Int.toNat_natCast] at hcell hfr
      rw [show rdOf 0 l (j : Int) = rd l j from rfl] at hcell
      go_upto_region 15 with (fail)
      refine wpc_world (fun X => Aside0 (Kd.R (Kd.int .i64) 3 X w.heap.size (fun x => w.heap.size ≤ x) (.slice (some ⟨g, 0, none⟩) l.length cap) (l.set j (rd l j - st))) ∧ Aside0 (Below w.heap.size w X)) ⟨⟨?_⟩, ⟨HB1.out.setCell (show w.heap.size ≤ g from HG.out) _⟩⟩ ?_
      · have := Kd.R_putn HR1.out (j : Int) (rd l j - st)
        rw [Int.toNat_natCast] at this
        exact this
      clear hcell hfr HR1 HB1
      rintro X ⟨HR1, HB1⟩
      obtain ⟨hcell, hfr⟩ := Kd.R_celln 0 HR1.out ((j : Int) - 1) (by omega) (by omega)
      rw [uz] at hcell hfr
      rw [show rdOf 0 (l.set j (rd l j - st)) ((j : Int) - 1) = rd (l.set j (rd l j - st)) ((j - 1 : Nat) : Int) from by rw [show ((j - 1 : Nat) : Int) = (j : Int) - 1 by omega]; rfl, rd_set_ne (by omega), show ((j - 1 : Nat) : Int) = (j : Int) - 1 by omega] at hcell
      have HPUT := Aside0.mk (Kd.R_putn HR1.out ((j : Int) - 1) (rd l ((j : Int) - 1) + st))
      rw [uz, HF.out] at HPUT
      have HCL : Aside0 ((carefulF l x).length = l.length) := ⟨by rw [allP_len HP.out, allP_len (careful_ok hk1 hk3 HP.out ⟨x0, x1⟩).1]⟩
      go_wp2
      go_ret
      exact served_new HPUT.out (HB1.out.setCell (show w.heap.size ≤ g from HG.out) _)
theorem refServe_calls {k : Nat} (hk1 : 1 ≤ k) (hk3 : k ≤ 3) (A : Option Addr) (c : Nat) (l : List Int) (x : Int) (w : World) (hr : Kd.C (Kd.int .i64) w A l.length l) (hc : l.length ≤ c) (hp : l ∈ allP k) (hx0 : 0 ≤ x ∧ x ≤ 30) :
    Calls Try.prog 64 #[.slice A l.length c, .int .i64 x] w (Served w A l (carefulF l x)) := by
  have hlen := allP_len hp
  have hs := allP_sorted (careful_ok hk1 hk3 hp hx0).1
  by_cases hx : x ∈ l
  · exact serve_has A c l x w hr hc (by omega) hx
  by_cases hlo : x < rd l 0
  · exact serve_low A c l x w hr hc (by omega) (by omega) hx hlo hs
  by_cases hhi : rd l ((l.length : Int) - 1) < x
  · exact serve_high A c l x w hr hc (by omega) (by omega) hx hlo hhi hs
  exact serve_mid hk1 hk3 A c l x w hr hc hp hx0 hx hlo hhi

/-! ### the reference's Near (66) -/
theorem nearI_succ (s : List Int) (x : Int) : ∀ j, 1 ≤ j → nearI s x 1 = 0
  | _, _ => by simp [nearI]
set_option maxRecDepth 100000 in
set_option maxHeartbeats 4000000 in
theorem refNear_calls {k : Nat} (hk1 : 1 ≤ k) (hk3 : k ≤ 3) (A : Option Addr) (c : Nat) (l : List Int) (x : Int) (w : World) (hr : Kd.C (Kd.int .i64) w A l.length l) (hp : l ∈ allP k) (hx0 : 0 ≤ x ∧ x ≤ 30) :
    Calls Try.prog 66 #[.slice A l.length c, .int .i64 x] w (Served w A l (nearF l x)) := by
  have hlen := allP_len hp
  have HFL := Aside0.mk (allP_pos hp).fl
  have HE : Aside0 (mvF l (nearI l x l.length) x = nearF l x) := ⟨mvF_srt (by rcases nearI_lt l x l.length with h | h <;> omega) x⟩
  have HR := Aside0.mk hr
  have hmx := Kd.C_max hr
  have HLen : Aside0 (l.length ≤ 3) := ⟨by omega⟩
  have hl1 : (0 : Int) < l.length := by omega
  obtain ⟨x0, x1⟩ := hx0
  clear hr hp hlen
  go_enter Try.func66, Try.ntmps66
  go_wp2
  go_loopw [5, 6] (fun v5 v6 wr => ∃ j : Nat, 1 ≤ j ∧ j ≤ l.length ∧ v6 = .int .i64 j ∧ v5 = .int .i64 (nearI l x j) ∧ Aside0 (Below w.heap.size w wr)) (fun _ v6 _ => l.length - (intOf v6).toNat)
  case atStart => exact ⟨1, Nat.le_refl _, by omega, rfl, by simp [nearI], ⟨Below.refl _ _⟩⟩
  case round =>
    obtain ⟨j, hj1, hj, rfl, rfl, HB⟩ := hrel
    have hb : nearI l x j < j := by rcases nearI_lt l x j with h | h <;> omega
    by_cases hlt : j < l.length
    · obtain ⟨ad, e0, h0⟩ := Kd.at_int (Kd.C_below HR.out HB.out) (j : Int) (by omega) (by omega)
      subst e0
      obtain ⟨_, e1, h1⟩ := Kd.at_int (Kd.C_below HR.out HB.out) (nearI l x j : Int) (by omega) (by omega)
      cases e1
      rw [Int.toNat_natCast] at h0 h1
      have hbl : nearI l x j < l.length := by omega
      obtain ⟨p0, p1⟩ := HFL.out j (by have := HLen.out; omega)
      obtain ⟨q0, q1⟩ := HFL.out (nearI l x j) (by have := HLen.out; omega)
      have hm1 : (if rd l j - x < x - rd l j then x - rd l j else rd l j - x) = ab (rd l j) x := by unfold ab; split <;> split <;> omega
      have hm2 : (if rd l (nearI l x j) - x < x - rd l (nearI l x j) then x - rd l (nearI l x j) else rd l (nearI l x j) - x) = ab (rd l (nearI l x j)) x := by unfold ab; split <;> split <;> omega
      have HN : Aside0 (nearI l x (j + 1) = if ab (rd l j) x < ab (rd l (nearI l x j)) x then j else nearI l x j) := ⟨rfl⟩
      by_cases hcmp : ab (rd l j) x < ab (rd l (nearI l x j)) x
      · have hcmp' := decide_eq_true hcmp
        have HN2 : Aside0 (nearI l x (j + 1) = j) := ⟨by rw [HN.out, if_pos hcmp]⟩
        clear hcmp
        go_upto_region 5 with (fail)
        go_quiet (fail)
        go_wp2
        go_roundw
        case rel => exact ⟨j + 1, by omega, by omega, by go_num, by rw [HN2.out], ⟨pw_below_drewN HB.out _⟩⟩
        case measure => simp [intOf]; omega
      · have hcmp' := decide_eq_false hcmp
        have HN2 : Aside0 (nearI l x (j + 1) = nearI l x j) := ⟨by rw [HN.out, if_neg hcmp]⟩
        clear hcmp
        go_upto_region 5 with (fail)
        go_quiet (fail)
        go_wp2
        go_roundw
        case rel => exact ⟨j + 1, by omega, by omega, by go_num, by rw [HN2.out], ⟨pw_below_drewN HB.out _⟩⟩
        case measure => simp [intOf]; omega
    · obtain rfl : j = l.length := by omega
      go_wp2_with (go_at_call 85; refine (refMoved_calls A c l (nearI l x l.length : Int) x _ (Kd.C_below HR.out HB.out) (by have := HLen.out; omega)).mono ?_; rintro e W2 ⟨v, rfl, hr2, hb2⟩; have HR2 := Aside0.mk hr2; have HB2 := Aside0.mk (below_step HB.out hb2); clear hr2 hb2)
      go_ret
      exact served_new (by rw [← HE.out]; exact Kd.R_mono (Kd.R_lower HR2.out HB.out.size) (fun q hq => Nat.le_trans HB.out.size hq)) HB2.out
end Go.Proofs.Ythadaajgjloogaa.L

namespace Go.Proofs.Ythadaajgjloogaa.L
open Go.RowKit Go.Shelf Go.Proofs.YthadaajgjloogaaW.PrintWords Go.Proofs.YthadaajgjloogaaW.PrintLast Go.Proofs.YthadaajgjloogaaW.PrintMore
attribute [local go_sem] max2_int min2_int max_two min_two max_three min_three max_four min_four
attribute [local go_sem] Oper.semAt_some

/-! ### the reference's Careful (37) and Nearest (39) -/
theorem F_next {W W1 : World} {v v1 : Value} {A : Option Addr} {row : List Int} (hF : Kd.F (Kd.int .i64) W (fun k => some k ≠ v.ownBlock) A row.length row) (hg : W.grownBy W1 v.ownBlock) (hat : v1.ownBlock = v.ownBlock ∨ ∃ b, v1.ownBlock = some b ∧ W.heap.size ≤ b) : Kd.F (Kd.int .i64) W1 (fun k => some k ≠ v1.ownBlock) A row.length row :=
  Kd.F_mono (Kd.F_after (ok := fun _ => True) (Kd.F_mono hF fun _ hk => ⟨trivial, hk⟩) hg hat) fun _ hk => hk.2
def Rowed (w : World) (rows : List (List Int)) (e : Ending) (w' : World) : Prop :=
  ∃ A' c', e = .returned (.slice A' rows.length c') ∧ rows.length ≤ c' ∧ Kd.C (Kd.slice 3 (Kd.int .i64)) w' A' rows.length rows ∧ Below w.heap.size w w'
theorem rowed_of_al {w w' : World} {B : Nat} {v : Value} {rows : List (List Int)} (h : Al w' B v rows) (hb : Below w.heap.size w w') : Rowed w rows (.returned v) w' := by
  obtain ⟨A, c, rfl, h1, h2⟩ := h.form
  exact ⟨A, c, rfl, h1, h2, hb⟩
/-- A loop's state: the rows so far, where the lifts are. -/
structure Rn (w W : World) (v6 v5 : Value) (now : List Int) (rows : List (List Int)) : Prop where
  al : Al W w.heap.size v5 rows
  now : ∃ A c, v6 = .slice A now.length c ∧ now.length ≤ c ∧ Kd.F (Kd.int .i64) W (fun k => some k ≠ v5.ownBlock) A now.length now
  hb : Below w.heap.size w W
set_option maxRecDepth 100000 in
set_option maxHeartbeats 4000000 in
theorem refCareful_calls (A B : Option Addr) (ca cb : Nat) (s c : List Int) (w : World) (hh : hallB s c = true) (hr : Kd.C (Kd.int .i64) w A s.length s) (hca : s.length ≤ ca) (hq : Kd.C (Kd.int .i64) w B c.length c) :
    Calls Try.prog 37 #[.slice A s.length ca, .slice B c.length cb] w (Rowed w (runL cS s c)) := by
  have HH := Aside0.mk hh
  obtain ⟨⟨hpos, hk1, hk3⟩, h40, hcs⟩ := hallB_parts hh
  have HCS := Aside0.mk hcs
  have HQ := Aside0.mk hq
  have HCA := Aside0.mk hca
  have HF0 : Aside0 (Kd.F (Kd.int .i64) w (fun k => some k ≠ (Value.slice none 0 0).ownBlock) A s.length s) := ⟨F_of_C hr _ (fun k _ => by simp [Value.ownBlock])⟩
  have hmx := Kd.C_max hq
  clear hh hpos hcs hq hca hr
  go_enter Try.func37, Try.ntmps37
  go_wp2
  go_loopw [5, 6, 7] (fun v5 v6 v7 wr => ∃ j : Nat, j ≤ c.length ∧ v7 = .int .i64 j ∧ Aside0 (Rn w wr v6 v5 (stepS cS () s c j).2.1 (stepS cS () s c j).2.2.1)) (fun _ _ v7 _ => c.length - (intOf v7).toNat)
  case atStart => exact ⟨0, Nat.zero_le _, rfl, ⟨⟨Al.nil _ _, ⟨A, ca, rfl, HCA.out, HF0.out⟩, Below.refl _ _⟩⟩⟩
  case round =>
    clear HF0
    obtain ⟨j, hj, rfl, HS⟩ := hrel
    by_cases hlt : j < c.length
    · obtain ⟨ad, rfl, hx⟩ := Kd.at_int (Kd.C_below HQ.out HS.out.hb) (j : Int) (by omega) (by omega)
      rw [Int.toNat_natCast] at hx
      have HP := Aside0.mk (cS_ok HH.out j hj)
      have HX := Aside0.mk (HCS.out _ (rd_mem hlt))
      have HE1 : Aside0 ((stepS cS () s c (j + 1)).2.1 = carefulF (stepS cS () s c j).2.1 (rd c j)) := ⟨rfl⟩
      have HE2 : Aside0 ((stepS cS () s c (j + 1)).2.2.1 = (stepS cS () s c j).2.2.1 ++ [carefulF (stepS cS () s c j).2.1 (rd c j)]) := ⟨rfl⟩
      have HLn : Aside0 ((stepS cS () s c j).2.2.1.length = j) := ⟨stepS_len cS () s c j⟩
      obtain ⟨An, cn, e6, hcn, hFn⟩ := HS.out.now
      have HCN := Aside0.mk hcn
      have HFN := Aside0.mk hFn
      subst e6
      clear hcn hFn
      generalize (stepS cS () s c j).2.1 = now at *
      generalize (stepS cS () s c j).2.2.1 = rows at *
      go_upto_region 7 with (go_at_call 64; refine (refServe_calls hk1 hk3 An cn now (rd c j) _ (Kd.F_now HFN.out) HCN.out HP.out HX.out).mono ?_; rintro e W2 ⟨A2, c2, rfl, hc2, hf2, hb2⟩; have HC2 := Aside0.mk hc2; have HF2 := Aside0.mk (hf2 _ HFN.out); have HB2 := Aside0.mk hb2; clear hc2 hf2 hb2)
      have HAL := Aside0.mk (HS.out.al.below HB2.out)
      have HF3 : Aside0 (Kd.F (Kd.int .i64) W2 (fun k => some k ≠ u5.ownBlock) A2 (carefulF now (rd c j)).length (carefulF now (rd c j))) := ⟨Kd.F_mono HF2.out fun k hk => hk.elim (fun h => h) (fun h e => by have := (HS.out.al.lt k e.symm).2; omega)⟩
      obtain ⟨hs, hR, hl2, hl3⟩ := HAL.out.ex
      have HR := Aside0.mk hR
      have HL2 := Aside0.mk hl2
      have HL3 := Aside0.mk hl3
      clear hR hl2 hl3 HF2
      have hsz : (hs.length + 1) * 24 ≤ 140737488355328 := by rw [HL2.out, HLn.out]; omega
      have hwz := HS.out.hb.size
      go_wp2_with ((with_reducible refine gate_builtin (b := .append) (xs := #[.tmp 21, .tmp 23]) rfl ?_); at_builtin; refine Kd.R_append hdK (w0 := W2) (W := W2) w.heap.size rfl (.tmp 21) (.tmp 23) 30 22 (.slice none 0 0) 24 rfl Try.underlying30 info22 rfl (by decide) (by omega) u5 hs (A2, (carefulF now (rd c j)).length, c2) [.slice A2 (carefulF now (rd c j)).length c2] (fun x => w.heap.size ≤ x) (fun _ => False) rfl rfl rfl (fun _ h => h.elim) (fun _ h => Nat.le_trans (Nat.le_trans hwz HB2.out.size) h) HR.out (Below.refl _ _) (Nat.le_trans hwz HB2.out.size) hsz ?_; intro v1 w1 hR1 hB1 hg1 hat1; have HRN : Aside0 (Rn w w1 (.slice A2 (carefulF now (rd c j)).length c2) v1 (carefulF now (rd c j)) (rows ++ [carefulF now (rd c j)])) := ⟨⟨Al.snoc HL2.out HL3.out hR1 HF3.out HC2.out hg1 hat1, ⟨A2, c2, rfl, HC2.out, F_next HF3.out hg1 hat1⟩, (below_step HS.out.hb HB2.out).trans hB1⟩⟩; clear hR1 hB1 hg1 hat1)
      go_roundw
      case rel => exact ⟨j + 1, by omega, by go_num, by rw [HE1.out, HE2.out]; exact HRN⟩
      case measure => simp [intOf]; omega
    · obtain rfl : j = c.length := by omega
      go_wp2
      go_ret
      exact rowed_of_al HS.out.al HS.out.hb
set_option maxRecDepth 100000 in
set_option maxHeartbeats 4000000 in
theorem refNearest_calls (A B : Option Addr) (ca cb : Nat) (s c : List Int) (w : World) (hh : hallB s c = true) (hr : Kd.C (Kd.int .i64) w A s.length s) (hca : s.length ≤ ca) (hq : Kd.C (Kd.int .i64) w B c.length c) :
    Calls Try.prog 39 #[.slice A s.length ca, .slice B c.length cb] w (Rowed w (runL nS s c)) := by
  have HH := Aside0.mk hh
  obtain ⟨⟨hpos, hk1, hk3⟩, h40, hcs⟩ := hallB_parts hh
  have HCS := Aside0.mk hcs
  have HQ := Aside0.mk hq
  have HCA := Aside0.mk hca
  have HF0 : Aside0 (Kd.F (Kd.int .i64) w (fun k => some k ≠ (Value.slice none 0 0).ownBlock) A s.length s) := ⟨F_of_C hr _ (fun k _ => by simp [Value.ownBlock])⟩
  have hmx := Kd.C_max hq
  clear hh hpos hcs hq hca hr
  go_enter Try.func39, Try.ntmps39
  go_wp2
  go_loopw [5, 6, 7] (fun v5 v6 v7 wr => ∃ j : Nat, j ≤ c.length ∧ v7 = .int .i64 j ∧ Aside0 (Rn w wr v6 v5 (stepS nS () s c j).2.1 (stepS nS () s c j).2.2.1)) (fun _ _ v7 _ => c.length - (intOf v7).toNat)
  case atStart => exact ⟨0, Nat.zero_le _, rfl, ⟨⟨Al.nil _ _, ⟨A, ca, rfl, HCA.out, HF0.out⟩, Below.refl _ _⟩⟩⟩
  case round =>
    clear HF0
    obtain ⟨j, hj, rfl, HS⟩ := hrel
    by_cases hlt : j < c.length
    · obtain ⟨ad, rfl, hx⟩ := Kd.at_int (Kd.C_below HQ.out HS.out.hb) (j : Int) (by omega) (by omega)
      rw [Int.toNat_natCast] at hx
      have HP := Aside0.mk (nS_ok HH.out j hj)
      have HX := Aside0.mk (HCS.out _ (rd_mem hlt))
      have HE1 : Aside0 ((stepS nS () s c (j + 1)).2.1 = nearF (stepS nS () s c j).2.1 (rd c j)) := ⟨rfl⟩
      have HE2 : Aside0 ((stepS nS () s c (j + 1)).2.2.1 = (stepS nS () s c j).2.2.1 ++ [nearF (stepS nS () s c j).2.1 (rd c j)]) := ⟨rfl⟩
      have HLn : Aside0 ((stepS nS () s c j).2.2.1.length = j) := ⟨stepS_len nS () s c j⟩
      obtain ⟨An, cn, e6, hcn, hFn⟩ := HS.out.now
      have HCN := Aside0.mk hcn
      have HFN := Aside0.mk hFn
      subst e6
      clear hcn hFn
      generalize (stepS nS () s c j).2.1 = now at *
      generalize (stepS nS () s c j).2.2.1 = rows at *
      go_upto_region 7 with (go_at_call 66; refine (refNear_calls hk1 hk3 An cn now (rd c j) _ (Kd.F_now HFN.out) HP.out HX.out).mono ?_; rintro e W2 ⟨A2, c2, rfl, hc2, hf2, hb2⟩; have HC2 := Aside0.mk hc2; have HF2 := Aside0.mk (hf2 _ HFN.out); have HB2 := Aside0.mk hb2; clear hc2 hf2 hb2)
      have HAL := Aside0.mk (HS.out.al.below HB2.out)
      have HF3 : Aside0 (Kd.F (Kd.int .i64) W2 (fun k => some k ≠ u5.ownBlock) A2 (nearF now (rd c j)).length (nearF now (rd c j))) := ⟨Kd.F_mono HF2.out fun k hk => hk.elim (fun h => h) (fun h e => by have := (HS.out.al.lt k e.symm).2; omega)⟩
      obtain ⟨hs, hR, hl2, hl3⟩ := HAL.out.ex
      have HR := Aside0.mk hR
      have HL2 := Aside0.mk hl2
      have HL3 := Aside0.mk hl3
      clear hR hl2 hl3 HF2
      have hsz : (hs.length + 1) * 24 ≤ 140737488355328 := by rw [HL2.out, HLn.out]; omega
      have hwz := HS.out.hb.size
      go_wp2_with ((with_reducible refine gate_builtin (b := .append) (xs := #[.tmp 21, .tmp 23]) rfl ?_); at_builtin; refine Kd.R_append hdK (w0 := W2) (W := W2) w.heap.size rfl (.tmp 21) (.tmp 23) 30 22 (.slice none 0 0) 24 rfl Try.underlying30 info22 rfl (by decide) (by omega) u5 hs (A2, (nearF now (rd c j)).length, c2) [.slice A2 (nearF now (rd c j)).length c2] (fun x => w.heap.size ≤ x) (fun _ => False) rfl rfl rfl (fun _ h => h.elim) (fun _ h => Nat.le_trans (Nat.le_trans hwz HB2.out.size) h) HR.out (Below.refl _ _) (Nat.le_trans hwz HB2.out.size) hsz ?_; intro v1 w1 hR1 hB1 hg1 hat1; have HRN : Aside0 (Rn w w1 (.slice A2 (nearF now (rd c j)).length c2) v1 (nearF now (rd c j)) (rows ++ [nearF now (rd c j)])) := ⟨⟨Al.snoc HL2.out HL3.out hR1 HF3.out HC2.out hg1 hat1, ⟨A2, c2, rfl, HC2.out, F_next HF3.out hg1 hat1⟩, (below_step HS.out.hb HB2.out).trans hB1⟩⟩; clear hR1 hB1 hg1 hat1)
      go_roundw
      case rel => exact ⟨j + 1, by omega, by go_num, by rw [HE1.out, HE2.out]; exact HRN⟩
      case measure => simp [intOf]; omega
    · obtain rfl : j = c.length := by omega
      go_wp2
      go_ret
      exact rowed_of_al HS.out.al HS.out.hb
end Go.Proofs.Ythadaajgjloogaa.L

namespace Go.Proofs.Ythadaajgjloogaa.L
open Go.RowKit Go.Shelf Go.Proofs.YthadaajgjloogaaW.PrintWords Go.Proofs.YthadaajgjloogaaW.PrintLast Go.Proofs.YthadaajgjloogaaW.PrintMore
open Go.Proofs.Ythadaajgjloogaa.PLiftsServes

/-! ### same (34) and the reference's Cost (35) -/
theorem ints_refl (a : List Int) (ha : a.length ≤ 1000) : ∀ (d i : Nat) (fuel : Nat), i + d = a.length → d + 1 ≤ fuel → turndownlaw07_ints.l0 fuel a a i = some true
  | _, _, 0, _, hf => by omega
  | 0, i, fuel + 1, h, _ => by rw [turndownlaw07_ints.l0, if_neg (by omega)]
  | d + 1, i, fuel + 1, h, hf => by
    rw [turndownlaw07_ints.l0, if_pos (by omega), if_pos (by omega), if_pos (by omega), if_pos rfl, w64 _ (by omega), show (i : Int) + 1 = ((i + 1 : Nat) : Int) by omega]
    exact ints_refl a ha d (i + 1) fuel (by omega) (by omega)
theorem same_step {l : List (List Int)} {i fuel : Nat} (hi : i < l.length) (hl : l.length ≤ 1000) (hf : 4 ≤ fuel) (h3 : l[i].length ≤ 3) : turndownlaw07_same.l0 (fuel + 1) l l i = turndownlaw07_same.l0 fuel l l ((i + 1 : Nat) : Int) := by
  have e : PLiftsServes.rd_L1 l (i : Int) = l[i] := by simp [PLiftsServes.rd_L1, List.getD, hi]
  rw [turndownlaw07_same.l0, if_pos (by omega), if_pos (by omega), if_pos (by omega), e, turndownlaw07_ints.f, if_pos rfl]
  rw [show ((0 : Int)) = ((0 : Nat) : Int) from rfl, ints_refl l[i] (by omega) l[i].length 0 fuel (by omega) (by omega)]
  simp only [Option.bind_some]
  rw [if_pos trivial, w64 _ (by omega), show (i : Int) + 1 = ((i + 1 : Nat) : Int) by omega]
theorem same_refl (l : List (List Int)) (hl : l.length ≤ 1000) (hr : ∀ p ∈ l, p.length ≤ 3) (d : Nat) : ∀ (i : Nat), i + d = l.length → turndownlaw07_same.l0 (d + 5) l l i = some true := by
  induction d with
  | zero => intro i h; rw [turndownlaw07_same.l0, if_neg (by omega)]
  | succ d ih =>
    intro i h
    rw [show d + 1 + 5 = (d + 5) + 1 by omega, same_step (by omega) hl (by omega) (hr _ (List.getElem_mem (by omega)))]
    exact ih (i + 1) (by omega)
theorem refSame_calls (A B : Option Addr) (ca cb : Nat) (l : List (List Int)) (w : World) (hl : l.length ≤ 1000) (hr : ∀ p ∈ l, p.length ≤ 3) (h0 : Kd.C (Kd.slice 3 (Kd.int .i64)) w A l.length l) (ha : l.length ≤ ca) (h1 : Kd.C (Kd.slice 3 (Kd.int .i64)) w B l.length l) (hb : l.length ≤ cb) :
    Calls Try.prog 34 #[.slice A l.length ca, .slice B l.length cb] w fun e w' => e = .returned (.bool true) ∧ Below w.heap.size w w' :=
  (turndownlaw07_same.calls (l.length + 5) A ca l B cb l true w h0 ha h1 hb (by rw [turndownlaw07_same.f, if_pos rfl]; exact same_refl l hl hr l.length 0 (by omega))).mono fun _ _ h => ⟨h.1, h.2.below⟩
theorem dist_eq : ∀ (k : Nat) (a b : List Int) (x i : Int), turndownref07_Distance.l0 k a b x i = PLiftsWorks.turndownref07_Distance.l0 k a b x i
  | 0, _, _, _, _ => rfl
  | k + 1, a, b, x, i => by simp only [turndownref07_Distance.l0, PLiftsWorks.turndownref07_Distance.l0, dist_eq k]
theorem dist_f {k : Nat} (hk : k ≤ 3) {a b : List Int} (ha : Pos k a) (hb : Pos k b) (fuel : Nat) (hf : 4 ≤ fuel) : turndownref07_Distance.f fuel a b = some (distF a b) := by
  have h := dist_l0 a b ha.all hb.all (by rw [ha.len, hb.len]; omega) (by rw [ha.len]; omega) a.length 0 fuel (by omega) (by rw [ha.len]; omega) (by simp [dl, sumI]) (by simp [dl, sumI])
  rw [turndownref07_Distance.f, dist_eq]
  exact h
theorem cost_step {k : Nat} (hk : k ≤ 3) {s : List Int} {l : List (List Int)} {i fuel : Nat} (hi : i < l.length) (hl : l.length ≤ 1000) (hf : 4 ≤ fuel) (hn : Pos k (nowAt s l i)) (hr : Pos k (rL l i)) (h1 : 0 ≤ costTo s l (i + 1) ∧ costTo s l (i + 1) ≤ 90 * ((i + 1 : Nat) : Int)) :
    turndownref07_Cost.l0 (fuel + 1) l (costTo s l i) (nowAt s l i) i = turndownref07_Cost.l0 fuel l (costTo s l (i + 1)) (nowAt s l (i + 1)) ((i + 1 : Nat) : Int) := by
  have e : PLiftsServes.rd_L1 l (i : Int) = rL l i := by unfold rL PLiftsServes.rd_L1 PLiftsWorks.rd_L1; rfl
  have e1 : costTo s l (i + 1) = costTo s l i + distF (nowAt s l i) (rL l i) := rfl
  rw [turndownref07_Cost.l0, if_pos (by omega), if_pos (by omega), e, dist_f hk hn hr _ hf]
  simp only [Option.bind_some]
  rw [w64 _ (by omega), w64 _ (by omega), show (i : Int) + 1 = ((i + 1 : Nat) : Int) by omega, ← e1]
  rfl
theorem cost_l0 {k : Nat} (hk : k ≤ 3) {s : List Int} (hs : Pos k s) {l : List (List Int)} (hl : l.length ≤ 1000) (hp : ∀ i, i < l.length → Pos k (rL l i)) (hc : ∀ i, i ≤ l.length → 0 ≤ costTo s l i ∧ costTo s l i ≤ 90 * (i : Int)) (d : Nat) : ∀ (i : Nat), i + d = l.length → turndownref07_Cost.l0 (d + 5) l (costTo s l i) (nowAt s l i) i = some (costTo s l l.length) := by
  induction d with
  | zero =>
    intro i h
    rw [turndownref07_Cost.l0, if_neg (by omega), show i = l.length by omega]
  | succ d ih =>
    intro i h
    have hn : Pos k (nowAt s l i) := by
      cases i with
      | zero => exact hs
      | succ j => exact hp j (by omega)
    rw [show d + 1 + 5 = (d + 5) + 1 by omega, cost_step hk (by omega) hl (by omega) hn (hp i (by omega)) (hc (i + 1) (by omega))]
    exact ih (i + 1) (by omega)
theorem refCost_calls (A B : Option Addr) (ca cb : Nat) (s c : List Int) (l : List (List Int)) (w : World) (hh : hallB s c = true) (hl : schedB s.length c l = true) (h0 : Kd.C (Kd.int .i64) w A s.length s) (ha : s.length ≤ ca) (h1 : Kd.C (Kd.slice 3 (Kd.int .i64)) w B l.length l) (hb : l.length ≤ cb) :
    Calls Try.prog 35 #[.slice A s.length ca, .slice B l.length cb] w fun e w' => e = .returned (.int .i64 (costTo s l l.length)) ∧ Below w.heap.size w w' := by
  obtain ⟨⟨hpos, hk1, hk3⟩, h40, hcs⟩ := hallB_parts hh
  obtain ⟨hlen, hrow⟩ := sched_rows hl
  refine turndownref07_Cost.calls (l.length + 5) (fun _ => True) A ca s (fun _ => True) B cb l _ w (Kd.V_mk ha (F_of_C h0 _ fun _ _ => trivial)) (Kd.V_mk hb fun W' hW => (Kd.heap_slice 3 (Kd.heap_int .i64)).C (fun k hk => hW k trivial hk) h1) ?_
  have := cost_l0 hk3 hpos (l := l) (by omega) (fun i hi => allP_pos (row_allP (hrow i (by omega))).1) (fun i hi => costTo_range hk3 hpos i (fun j hj => hrow j (by omega))) l.length 0 (by omega)
  exact this
end Go.Proofs.Ythadaajgjloogaa.L

