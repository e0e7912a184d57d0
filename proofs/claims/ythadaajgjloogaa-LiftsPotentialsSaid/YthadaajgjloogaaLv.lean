import Derived.Test.YthadaajgjloogaaLu
namespace Go.Proofs.Ythadaajgjloogaa.L
open Go.RowKit Go.Shelf Go.Proofs.YthadaajgjloogaaW.PrintWords Go.Proofs.YthadaajgjloogaaW.PrintLast Go.Proofs.YthadaajgjloogaaW.PrintMore
attribute [local go_sem] max2_int min2_int max_two min_two max_three min_three max_four min_four
attribute [local go_sem] Oper.semAt_some

abbrev mpK : Kd Nat := Kd.scalar (fun b => Value.map (some b)) (fun _ => rfl)
theorem info68 : (Try.prog.info? 68).map (fun i => (i.zero, i.size, i.bytes)) = some (some (.map none), 1, 8) := by kernel_rfl

structure Bw (w W : World) (k : Nat) (s0 : List Int) (cv : Value) (fs : Nat → List Int → Int) (v3 : Value) (bs : List Nat) : Prop where
  h1 : W.heap[w.heap.size]? = some (.cells (hl k s0 cv) 62 (0, 0))
  hR : mpK.R 68 W (w.heap.size + 1) (fun x => w.heap.size + 1 ≤ x) v3 bs
  hM : ∀ i, i < bs.length → MapF W (bs.getD i 0) k (fs i)
  hb : Below w.heap.size w W
theorem Bw.below {w W W2 : World} {k : Nat} {s0 : List Int} {cv : Value} {fs : Nat → List Int → Int} {v3 : Value} {bs : List Nat} (h : Bw w W k s0 cv fs v3 bs) (hb : Below W.heap.size W W2) : Bw w W2 k s0 cv fs v3 bs :=
  ⟨(hb.block _ (blk_lt h.h1)).trans h.h1, Kd.R_below h.hR hb, fun i hi => (h.hM i hi).below (h.hM i hi).lt hb, h.hb.trans (hb.mono h.hb.size)⟩

theorem MapF.grown {W W2 : World} {mb k : Nat} {f : List Int → Int} {row : Option Nat} (h : MapF W mb k f) (hg : W.grownBy W2 row) (hne : ∀ q, row = some q → ∃ cells t, W.heap[q]? = some (.cells cells t (0, 0))) : MapF W2 mb k f := by
  obtain ⟨l, h1, h2⟩ := h
  refine ⟨l, (hg.block _ (blk_lt h1) fun e => ?_).trans h1, h2⟩
  obtain ⟨cells, t, hc⟩ := hne _ e.symm
  rw [h1] at hc
  cases hc
theorem Bw.more {w W W2 : World} {k : Nat} {s0 : List Int} {cv : Value} {fs : Nat → List Int → Int} {v3 v1 : Value} {bs : List Nat} {nb : Nat} (h : Bw w W k s0 cv fs v3 bs) (hm : MapF W nb k (fs bs.length)) (hR : mpK.R 68 W2 (w.heap.size + 1) (fun x => w.heap.size + 1 ≤ x) v1 (bs ++ [nb])) (hB : Below (w.heap.size + 1) W W2) (hg : W.grownBy W2 v3.ownBlock) : Bw w W2 k s0 cv fs v1 (bs ++ [nb]) := by
  have hty : ∀ q, v3.ownBlock = some q → ∃ cells t, W.heap[q]? = some (.cells cells t (0, 0)) := fun q hq => by
    obtain ⟨cells, hc⟩ := Kd.R_typed h.hR q hq
    exact ⟨cells, _, hc⟩
  refine ⟨(hB.block _ (by omega)).trans h.h1, hR, fun i hi => ?_, h.hb.trans (hB.mono (by omega))⟩
  rw [List.length_append, List.length_singleton] at hi
  by_cases hlt : i < bs.length
  · rw [show (bs ++ [nb]).getD i 0 = bs.getD i 0 by rw [List.getD_eq_getElem?_getD, List.getD_eq_getElem?_getD, List.getElem?_append_left hlt]]
    exact (h.hM i hlt).grown hg hty
  · obtain rfl : i = bs.length := by omega
    rw [show (bs ++ [nb]).getD bs.length 0 = nb by simp [List.getD]]
    exact hm.grown hg hty

theorem Bw.over {w W W2 : World} {k : Nat} {s0 : List Int} {cv : Value} {fs : Nat → List Int → Int} {v3 : Value} {bs : List Nat} {D g6 : Nat} (h : Bw w W k s0 cv fs v3 bs) (hD : w.heap.size + 1 ≤ D) (hB : Below D W W2) (hg : W.grownBy W2 (some g6)) (hty : ∃ cells, W.heap[g6]? = some (.cells cells 22 (0, 0))) : Bw w W2 k s0 cv fs v3 bs := by
  obtain ⟨cells, hc⟩ := hty
  refine ⟨(hB.block _ (by omega)).trans h.h1, ?_, fun i hi => (h.hM i hi).grown hg fun q hq => ?_, h.hb.trans (hB.mono (by omega))⟩
  · refine Kd.R_over' (v := .slice (some ⟨g6, 0, none⟩) 1 1) (e' := 22) h.hR (fun q hq => ?_) (fun q hq => ?_) (by rw [show (Value.slice (some ⟨g6, 0, none⟩) 1 1).ownBlock = some g6 from by simp [Value.ownBlock]]; exact hg)
    · have : g6 = q := by simpa [Value.ownBlock] using hq
      exact ⟨cells, this ▸ hc⟩
    · have : q = 68 := by simpa [mpK, Kd.scalar] using hq
      omega
  · have : g6 = q := by simpa using hq
    exact ⟨cells, 22, this ▸ hc⟩
theorem outJ_len (s c : List Int) (j : Nat) : (outJ s c j).length = c.length := by simp [outJ]

/-- g with these captured values tells the numbers fr, whatever is made meanwhile. -/
def FrOk (W : World) (k g : Nat) (caps : Array Value) (fr : List Int → Int) : Prop :=
  (∀ (args : Array Value) (W' : World), (callFunc g args).run Try.prog W' = .ok (.enter g args) W') ∧
    ∀ p ∈ allP k, ∀ W2, Below W.heap.size W W2 → Calls Try.prog g (#[.agg (sp p)] ++ caps) W2 fun e W' => e = .returned (.int .i64 (fr p)) ∧ Below W2.heap.size W2 W'
theorem FrOk.below {W W2 : World} {k g : Nat} {caps : Array Value} {fr : List Int → Int} (h : FrOk W k g caps fr) (hb : Below W.heap.size W W2) : FrOk W2 k g caps fr :=
  ⟨h.1, fun p hp W3 h3 => h.2 p hp W3 (below_step hb h3)⟩
theorem zero_fr (W : World) (k : Nat) : FrOk W k 90 #[] (fun _ => 0) := ⟨enter_fn 90 Try.func90 rfl rfl, fun p _ W2 _ => zero_calls p W2⟩
theorem from_fr {W : World} {k hb gb : Nat} {s0 : List Int} {cv : Value} {s : List Int} (hh : W.heap[hb]? = some (.cells (hl k s0 cv) 62 (0, 0))) (hg : W.heap[gb]? = some (.cells (sp s) 60 (0, 0))) (hk3 : k ≤ 3) (hs : Pos k s) :
    FrOk W k 91 #[.pointer (some ⟨hb, 0, none⟩), .pointer (some ⟨gb, 0, none⟩)] (distF s) :=
  ⟨enter_fn 91 Try.func91 rfl rfl, fun p hp W2 h2 => from_calls hb gb k s0 cv s p W2 ((h2.block _ (blk_lt hh)).trans hh) ((h2.block _ (blk_lt hg)).trans hg) hk3 hs (allP_pos hp)⟩

set_option maxRecDepth 100000 in
set_option maxHeartbeats 8000000 in
theorem best_calls (s c : List Int) (B : Option Addr) (cb : Nat) (w : World) (hh : hallB s c = true) (hq : Kd.C (Kd.int .i64) w B c.length c) :
    Calls Try.prog 59 #[.agg (hl s.length s (.slice B c.length cb))] w fun e w' => ∃ v, e = .returned v ∧ Rows w' w.heap.size v (bestL s c) ∧ Below w.heap.size w w' := by
  have HP := Aside0.mk (hallB_parts hh)
  have HQ := Aside0.mk hq
  clear hh hq
  obtain ⟨⟨hpos, hk1, hk3⟩, h40, hcs⟩ := HP.out
  have HCS := Aside0.mk hcs
  clear hcs
  go_enter Try.func59, Try.ntmps59
  go_upto_region 2 with (go_at_call 49; refine (first_calls s.length s _ _ hk3 hpos).mono ?_; rintro e V2 ⟨rfl, hm, hb⟩; have HM : Aside0 (MapF V2 (w.heap.size + 1 + 1) s.length (distF s)) := ⟨by have := first_MapF hk3 s hm; simpa using this⟩; have HB2 := Aside0.mk hb; clear hm hb)
  refine wpc_world (fun W => Aside0 (Bw w W s.length s (.slice B c.length cb) (workAt s c) (.slice (some ⟨V2.heap.size, 0, none⟩) 1 1) [w.heap.size + 1 + 1])) ⟨⟨?_, ?_, ?_, ?_⟩⟩ ?_
  · exact alo ((HB2.out.block _ (by simp)).trans (aln _ _)) _
  · have hsz : w.heap.size + 1 ≤ V2.heap.size := by have := HB2.out.size; simpa using this
    refine Kd.R_of_own (xs := [w.heap.size + 1 + 1]) (show World.ownsRow _ _ _ _ _ 1 [Value.map (some (w.heap.size + 1 + 1))] from World.ownsRow_lit (base := w.heap.size + 1) (e := 68) (size := 1) V2 #[.map (some (w.heap.size + 1 + 1))] 1 hsz (by decide) rfl) ?_
    intro q hq
    have : V2.heap.size = q := by simpa [Value.ownBlock] using hq
    omega
  · intro i hi
    have : i = 0 := by simpa using hi
    subst this
    exact HM.out.below HM.out.lt (below_alloc (Below.refl _ _) _)
  · exact below_alloc (below_step (below_alloc (Below.refl _ _) _) HB2.out) _
  clear HM HB2
  rintro W HW
  obtain ⟨⟨c0, c1, c2, c3, c4⟩, _⟩ := hl_read HW.out.h1
  have l3 := Kd.C_max HQ.out
  go_wp2
  go_loopw [3, 4, 5, 16] (fun v3 _ _ v16 wr => ∃ (j : Nat) (bs : List Nat), j ≤ c.length ∧ bs.length = j + 1 ∧ v16 = .int .i64 j ∧ Aside0 (Bw w wr s.length s (.slice B c.length cb) (workAt s c) v3 bs)) (fun _ _ _ v16 _ => c.length - (intOf v16).toNat)
  case atStart => exact ⟨0, _, Nat.zero_le _, rfl, rfl, HW⟩
  case round =>
    clear HW c0 c1 c2 c3 c4
    obtain ⟨j, bs, hj, hbs, rfl, HW⟩ := hrel
    obtain ⟨⟨c0, c1, c2, c3, c4⟩, _⟩ := hl_read HW.out.h1
    by_cases hlt : j < c.length
    · have HC1 := Kd.C_below HQ.out HW.out.hb
      obtain ⟨ad, rfl, hx⟩ := Kd.at_int HC1 (j : Int) (by omega) (by omega)
      rw [Int.toNat_natCast] at hx
      clear HC1
      have HX := Aside0.mk (HCS.out (rd c j) (rd_mem hlt))
      have HR := Aside0.mk (workAt_range hk1 hk3 hpos HCS.out j hj)
      obtain ⟨A3, c3', rfl, hcap, hC3⟩ := Kd.R_reads HW.out.hR
      obtain ⟨a3, rfl, hy⟩ := ReadsOf.at_ (Kd.reads_of_C (enc := fun b : Nat => Value.map (some b)) (d := (0 : Nat)) (h1 := fun _ => rfl) hC3) (j : Int) (by omega) (by omega)
      rw [Int.toNat_natCast] at hy
      rw [show rdOf 0 bs (j : Int) = bs.getD j 0 from by simp [rdOf]] at hy
      have HMJ := Aside0.mk (HW.out.hM j (by omega))
      have HY := Aside0.mk hy
      have HMJ := Aside0.mk (HMJ.out.below HMJ.out.lt (below_drew1 (Below.refl wr.heap.size wr)))
      generalize bs.getD j 0 = mb at *
      clear hC3
      rw [hbs] at HW ⊢
      have HBS := Aside0.mk hbs
      have hj1 : (j : Int) < ((j + 1 : Nat) : Int) := by omega
      go_upto_region 5 with (fail)
      refine wp_region_held_drew (S := (fun U => U.cell? ⟨w.heap.size, 0, none⟩ = some (.int .i64 s.length) ∧ U.cell? ⟨w.heap.size, 1, none⟩ = some (.int .i64 (rd s 0)) ∧ U.cell? ⟨w.heap.size, 2, none⟩ = some (.int .i64 (rd s 1)) ∧ U.cell? ⟨w.heap.size, 3, none⟩ = some (.int .i64 (rd s 2)) ∧ U.cell? ⟨w.heap.size, 4, none⟩ = some (.slice (some ad) c.length cb))) (by kernel_rfl) (by go_keep) (fun hHeld => ?_)
      refine wpAnyH_take (i := 0) (v := .slice (some a3) (j + 1) c3') rfl (by kernel_rfl) (by kernel_rfl) (by kernel_rfl) (fun _ _ _ h => h) (Or.inl ⟨by rfl, ?_⟩) hHeld ?_
      · rintro U ⟨u0, u1, u2, u3, u4⟩
        go_simp
      refine wpAnyH_take (i := 1) (v := .agg #[.int .i64 s.length, .int .i64 (rd s 0), .int .i64 (rd s 1), .int .i64 (rd s 2), .slice (some ad) c.length cb]) rfl (by kernel_rfl) (by kernel_rfl) (by kernel_rfl) (fun _ _ _ h => h) (Or.inl ⟨by rfl, ?_⟩) hHeld ?_
      · rintro U ⟨u0, u1, u2, u3, u4⟩
        go_simp
      refine wpAnyH_take (i := 2) (v := .slice (some a3) (j + 1) c3') rfl (by kernel_rfl) (by kernel_rfl) (by kernel_rfl) (fun _ _ _ h => h) (Or.inl ⟨by rfl, ?_⟩) hHeld ?_
      · rintro U ⟨u0, u1, u2, u3, u4⟩
        go_simp
      refine wpAnyH_take (i := 3) (v := .int .i64 j) rfl (by kernel_rfl) (by kernel_rfl) (by kernel_rfl) (fun _ _ _ h => h) (Or.inl ⟨by rfl, ?_⟩) hHeld ?_
      · rintro U ⟨u0, u1, u2, u3, u4⟩
        go_simp
      refine wpAnyH_take (i := 6) (v := .int .i64 (rd c j)) rfl (by kernel_rfl) (by kernel_rfl) (by kernel_rfl) (fun _ _ _ h => h) (Or.inl ⟨by rfl, ?_⟩) hHeld ?_
      · rintro U ⟨u0, u1, u2, u3, u4⟩
        go_simp
      refine wpAnyH_ready (rs := [4]) (by kernel_rfl) (by simp) ?_
      refine AllReadyH.cons rfl (fun K hK => ?_) AllReadyH.nil
      go_simp
      go_wp2
      refine hK.out _ _ hHeld (fun hHeld => ?_)
      clear hK K
      refine wpAnyH_ready (rs := [5]) (by kernel_rfl) (by simp) ?_
      refine AllReadyH.cons rfl (fun K hK => ?_) AllReadyH.nil
      go_simp
      refine hK.out _ _ hHeld (fun hHeld => ?_)
      clear hK K
      refine wpAnyH_ready (rs := [7]) (by kernel_rfl) (by simp) ?_
      refine AllReadyH.cons rfl (fun K hK => ?_) AllReadyH.nil
      go_simp
      refine (after_calls s.length s _ mb (workAt s c j) (90 + 30 * (j : Int)) (rd c j) _ hk1 hk3 HX.out HMJ.out HR.out (by omega)).mono ?_
      rintro e V3 ⟨rfl, hm0, hb0⟩
      have HM3 : Aside0 (MapF V3 (wr.heap.size + 1) s.length (workAt s c (j + 1))) := ⟨hm0⟩
      have HB3 : Aside0 (Below wr.heap.size wr V3) := ⟨below_step (below_drew1 (Below.refl _ _)) hb0⟩
      clear hm0 hb0
      have HW3 := Aside0.mk (HW.out.below HB3.out)
      have h5 := (hl_read HW3.out.h1).1
      refine hK.out _ _ h5 (fun hHeld => ?_)
      clear hK K h5
      refine wpAnyH_ready (rs := [8]) (by kernel_rfl) (by simp) ?_
      refine AllReadyH.cons rfl (fun K hK => ?_) AllReadyH.nil
      go_simp
      refine hK.out _ _ (hl_read (alo HW3.out.h1 _)).1 (fun hHeld => ?_)
      clear hK K
      refine wpAnyH_ready (rs := [9]) (by kernel_rfl) (by simp) ?_
      refine AllReadyH.cons rfl (fun K hK => ?_) AllReadyH.nil
      refine Kd.R_append_step mpK (w0 := V3) (W := V3) (w.heap.size + 1) (by rfl) (.tmp 21) (.tmp 29) 109 68 (.map none) 8 (by rfl) Try.underlying109 info68 (by rfl) (by decide) (by omega) (.slice (some a3) (j + 1) c3') bs (wr.heap.size + 1) [.map (some (wr.heap.size + 1))] (fun x => w.heap.size + 1 ≤ x) (fun _ => False) (by rfl) (by rfl) (by rfl) (fun _ h => h.elim) (fun q hq => by have := blk_lt HW3.out.h1; omega) HW3.out.hR (Below.refl _ _) (blk_lt HW3.out.h1) (by rw [HBS.out]; omega) ?_
      intro v1 w1 hR1 hB1 hg1 hat1
      have HW4 := Aside0.mk (HW3.out.more (by rw [HBS.out]; exact HM3.out) hR1 hB1 hg1)
      clear hR1 hB1 hg1 hat1
      refine hK.out _ _ (hl_read HW4.out.h1).1 (fun hHeld => ?_)
      clear hK K
      refine wpAnyH_ready (rs := [10]) (by kernel_rfl) (by simp) ?_
      refine AllReadyH.cons rfl (fun K hK => ?_) AllReadyH.nil
      go_simp
      refine hK.out _ _ hHeld (fun hHeld => ?_)
      clear hK K
      refine wpAnyH_done (by kernel_rfl) ?_ _
      clear hHeld
      clear c0 c1 c2 c3 c4
      go_wp2
      go_roundw
      case rel => exact ⟨j + 1, _, by omega, by rw [List.length_append, HBS.out, List.length_singleton], by go_num, HW4⟩
      case measure => simp [intOf]; omega
    · obtain rfl : j = c.length := by omega
      have HBS := Aside0.mk hbs
      obtain ⟨D, hD⟩ : ∃ D, D = wr.heap.size := ⟨_, rfl⟩
      have hDw : w.heap.size + 1 ≤ D := by have := blk_lt HW.out.h1; omega
      go_wp2_with ((with_reducible refine gate_dst (N := 35) rfl ?_); refine Kd.R_make (Kd.slice 3 (Kd.int .i64)) (w0 := wr) D 22 rfl (N := 35) rfl 30 _ _ rfl (c.length : Int) rfl rfl Try.underlying30 (.slice none 0 0) 24 info22 rfl (by decide) (by omega) [] (ok := fun x => D ≤ x) (okp := fun _ => False) ⟨_, rfl, Kd.R_nil _ _ _ _ _⟩ (fun _ h => h.elim) (Nat.le_of_eq hD) (by omega) (by omega) (Below.refl _ _) (Nat.le_of_eq hD) ?_; intro v6 w6 hR6 hB6 hg6 hat6; rw [Int.toNat_natCast] at hR6; clear hg6 hat6; have HR6 : Aside0 ((Kd.slice 3 (Kd.int .i64)).R 22 w6 D (fun x => D ≤ x) v6 (outJ s c 0)) := ⟨by rw [outJ_zero]; exact hR6⟩; have HW6 := Aside0.mk (HW.out.below (by rw [← hD]; exact hB6)); clear hR6 hB6; obtain ⟨⟨c0, c1, c2, c3, c4⟩, _⟩ := hl_read HW6.out.h1)
      have hmake : ∀ V, Below w6.heap.size w6 V → True := fun _ _ => trivial
      clear hmake
      obtain ⟨A3, c3', rfl, hcap, hC3⟩ := Kd.R_reads HW6.out.hR
      clear hC3 c0 c1 c2 c3 c4 HW
      rw [hbs] at HW6 ⊢
      go_loopw [7, 8, 9] (fun v7 v8 _ U => ∃ (j g : Nat) (caps : Array Value), j ≤ c.length ∧ v8 = .int .i64 ((c.length : Int) - 1 - j) ∧ v7 = .func (.func g) #[] caps ∧ Aside0 (FrOk U s.length g caps (frm s c j)) ∧ Aside0 (Bw w U s.length s (.slice B c.length cb) (workAt s c) (.slice A3 (c.length + 1) c3') bs) ∧ Aside0 ((Kd.slice 3 (Kd.int .i64)).R 22 U D (fun x => D ≤ x) v6 (outJ s c j))) (fun _ v8 _ _ => (intOf v8 + 1).toNat)
      case atStart => exact ⟨0, 90, #[], Nat.zero_le _, by simp, rfl, ⟨zero_fr _ _⟩, HW6, HR6⟩
      case round =>
        clear HW6 HR6
        obtain ⟨j, g, caps, hj, rfl, rfl, HF, HW, HR⟩ := hrel
        by_cases hlt : j < c.length
        · obtain ⟨m, hm⟩ : ∃ m : Nat, m + 1 + j = c.length := ⟨c.length - 1 - j, by omega⟩
          rw [show (c.length : Int) - 1 - j = (m : Int) from by omega]
          have HC1 := Kd.C_below HQ.out HW.out.hb
          obtain ⟨ad, rfl, hx⟩ := Kd.at_int HC1 (m : Int) (by omega) (by omega)
          rw [Int.toNat_natCast] at hx
          clear HC1
          have HX := Aside0.mk (HCS.out (rd c m) (rd_mem (by omega)))
          have HRW := Aside0.mk (workAt_range hk1 hk3 hpos HCS.out (m + 1) (by omega))
          have HRF := Aside0.mk (frm_range hk1 hk3 hpos HCS.out h40 j hj)
          have HPS := Aside0.mk (bps_spec hk1 hk3 hpos HCS.out h40 hlt).1
          have HPP := Aside0.mk (allP_pos HPS.out)
          have HFS : Aside0 (frm s c (j + 1) = distF (bps s c j)) := ⟨rfl⟩
          have HOS := Aside0.mk (outJ_succ s c j hlt)
          rw [show c.length - 1 - j = m by omega] at HOS
          have HEQ : Aside0 (bps s c j = (chF (fun p => workAt s c (m + 1) p + frm s c j p) (rd c (m : Int)) (allP s.length)).1) := ⟨by unfold bps; rw [show c.length - j = m + 1 by omega, show c.length - 1 - j = m by omega]⟩
          obtain ⟨-, -, hC3⟩ := Kd.R_reads' HW.out.hR
          obtain ⟨a3, rfl, hy⟩ := ReadsOf.at_ (Kd.reads_of_C (enc := fun b : Nat => Value.map (some b)) (d := (0 : Nat)) (h1 := fun _ => rfl) hC3) ((m + 1 : Nat) : Int) (by omega) (by rw [HBS.out]; omega)
          rw [Int.toNat_natCast] at hy
          rw [show rdOf 0 bs ((m + 1 : Nat) : Int) = bs.getD (m + 1) 0 from by simp [rdOf]] at hy
          have HMJ := Aside0.mk (HW.out.hM (m + 1) (by rw [HBS.out]; omega))
          generalize bs.getD (m + 1) 0 = mb at *
          clear hC3
          have hwr : IntKind.i64.wrap ((m : Int) + 1) = ((m + 1 : Nat) : Int) := by rw [IntWalk.i64_in _ (by omega)]; omega
          have hm1 : ((m + 1 : Nat) : Int) < ((c.length + 1 : Nat) : Int) := by omega
          have hm2 : (0 : Int) ≤ ((m + 1 : Nat) : Int) := by omega
          have hm3 : (m : Int) < (c.length : Int) := by omega
          have hm4 : m < c.length := by omega
          have hm7 : m + 1 < bs.length := by omega
          have hm8 : (m : Int) + 1 < (bs.length : Int) := by omega
          have hm9 : ((m + 1 : Nat) : Int) < (bs.length : Int) := by omega
          have hm5 : (0 : Int) ≤ (m : Int) + 1 := by omega
          have hm6 : (m : Int) + 1 < (c.length : Int) + 1 := by omega
          have ea3 : a3.add (m + 1) = ⟨a3.block, a3.off + (m + 1), none⟩ := by simp [Addr.add]
          rw [ea3] at hy
          clear ea3
          have HCH : Aside0 (∀ V, Below wr.heap.size wr V → Calls Try.prog 61 #[.agg #[.int .i64 s.length, .int .i64 (rd s 0), .int .i64 (rd s 1), .int .i64 (rd s 2), .slice (some ad) c.length cb], .map (some mb), .int .i64 (rd c m), .func (.func g) #[] caps] V fun e w' => e = .returned (.agg #[.int .i64 (rd (bps s c j) 0), .int .i64 (rd (bps s c j) 1), .int .i64 (rd (bps s c j) 2)]) ∧ Below V.heap.size V w') := by
            refine ⟨fun V hV => ?_⟩
            obtain ⟨l, hl1, _, hl2⟩ := HMJ.out.below HMJ.out.lt hV
            rw [HEQ.out]
            refine cheapest_calls s.length s (.slice (some ad) c.length cb) mb l _ (rd c m) g #[] caps (workAt s c (m + 1)) (frm s c j) V HF.out.1 hk3 hl1 hl2 (fun p hp => ?_) (fun p hp => ?_) (fun p hp W2 h2 => ?_)
            · have := HRW.out p hp; omega
            · have := HRF.out p hp; omega
            · exact (HF.out.below hV).2 p hp W2 h2
          obtain ⟨⟨c0, c1, c2, c3, c4⟩, _⟩ := hl_read HW.out.h1
          have hne1 : w.heap.size ≠ wr.heap.size := by have := blk_lt HW.out.h1; omega
          have hne2 : wr.heap.size ≠ w.heap.size := Ne.symm hne1
          have hne3 := World.new_ne _ _ hx
          have hne4 := World.new_ne _ _ hy
          have hne5 := Ne.symm hne3
          have hne6 := Ne.symm hne4
          have HX2 := Aside0.mk hx
          have HY2 := Aside0.mk hy
          go_upto_region 12 with (fail)
          have HMM := Aside0.mk hm
          have HDD := Aside0.mk hD
          have HDW := Aside0.mk hDw
          have HJ := Aside0.mk hlt
          clear hm hbs hj hlt hD hDw hcap
          go_region_held3 (fun U => U.cell? ⟨w.heap.size, 0, none⟩ = some (.int .i64 s.length) ∧ U.cell? ⟨w.heap.size, 1, none⟩ = some (.int .i64 (rd s 0)) ∧ U.cell? ⟨w.heap.size, 2, none⟩ = some (.int .i64 (rd s 1)) ∧ U.cell? ⟨w.heap.size, 3, none⟩ = some (.int .i64 (rd s 2)) ∧ U.cell? ⟨w.heap.size, 4, none⟩ = some (.slice (some ad) c.length cb) ∧
            U.cell? ⟨a3.block, a3.off + (m + 1), none⟩ = some (.map (some mb)) ∧ U.cell? (ad.add m) = some (.int .i64 (rd c m))) (go_keep)
            (first
              | (go_at_call 61; refine (HCH.out _ (below_drew1 (Below.refl _ _))).mono ?_; rintro e V3 ⟨rfl, hb0⟩; have HB3 : Aside0 (Below wr.heap.size wr V3) := ⟨below_step (below_drew1 (Below.refl _ _)) hb0⟩; clear hb0; have HW3 := Aside0.mk (HW.out.below HB3.out); obtain ⟨⟨c0, c1, c2, c3, c4⟩, _⟩ := hl_read HW3.out.h1; have hx := (HB3.out.cell (World.block_lt_of_cell? _ _ HX2.out)).trans HX2.out; have hy := (HB3.out.cell (World.block_lt_of_cell? _ _ HY2.out)).trans HY2.out; have n1 : w.heap.size ≠ V3.heap.size := (by have := blk_lt HW3.out.h1; omega); have n2 : V3.heap.size ≠ w.heap.size := Ne.symm n1; have n3 := World.new_ne _ _ hx; have n4 := World.new_ne _ _ hy; have n5 := Ne.symm n3; have n6 := Ne.symm n4)
              | (go_at_call 61; refine (HCH.out _ (below_alloc (below_drew1 (Below.refl _ _)) _)).mono ?_; rintro e V3 ⟨rfl, hb0⟩; have HG3 : Aside0 (V3.heap[wr.heap.size]? = some (.cells (sp []) 60 (0, 0))) := ⟨(hb0.block _ (by simp)).trans (aln wr.drew _)⟩; have HB3 : Aside0 (Below wr.heap.size wr V3) := ⟨below_step (below_alloc (below_drew1 (Below.refl _ _)) _) hb0⟩; clear hb0; obtain ⟨r0, r1, r2, f0, f1, f2⟩ := sp_read HG3.out; have HW3 := Aside0.mk (HW.out.below HB3.out); obtain ⟨⟨c0, c1, c2, c3, c4⟩, _⟩ := hl_read HW3.out.h1; have hx := (HB3.out.cell (World.block_lt_of_cell? _ _ HX2.out)).trans HX2.out; have hy := (HB3.out.cell (World.block_lt_of_cell? _ _ HY2.out)).trans HY2.out))
          · go_upto_region 13 with (fail)
            clear c0 c1 c2 c3 c4 hx hy n1 n2 n3 n4 n5 n6 hne1 hne2 hne3 hne4 hne5 hne6
            refine wpc_world (fun W => Aside0 (Below wr.heap.size wr W) ∧ Aside0 (W.heap[V3.heap.size]? = some (.cells (sp (bps s c j)) 60 (0, 0)))) ⟨⟨below_alloc HB3.out _⟩, ⟨aln _ _⟩⟩ ?_
            rintro W ⟨HBW, HG⟩
            have HW4 := Aside0.mk (HW.out.below HBW.out)
            have HR4 := Aside0.mk (Kd.R_below HR.out HBW.out)
            obtain ⟨g6, c6, e6, hg6, hg6', hty⟩ := Kd.R_form HR4.out (by rw [outJ_len]; omega)
            have HTY := Aside0.mk hty
            have HGL := Aside0.mk (And.intro hg6 hg6')
            clear hg6 hg6' hty
            rw [outJ_len] at e6
            subst e6
            obtain ⟨⟨c0, c1, c2, c3, c4⟩, _⟩ := hl_read HW4.out.h1
            obtain ⟨r0, r1, r2, _, _, _⟩ := sp_read HG.out
            have hk3' : (s.length : Int) ≤ 3 := by omega
            go_wp2_with (first
              | (go_at_call 86; refine (clone_sp V3.heap.size s.length (bps s c j) _ HG.out HPP.out.len hk3).mono ?_; rintro e W5 ⟨vr, rfl, hr5, hb5⟩; have HB5 := Aside0.mk hb5; have HR5 := Aside0.mk (Kd.R_below HR4.out hb5); have HN5 := Aside0.mk hr5; have HG5 := Aside0.mk ((hb5.block _ (blk_lt HG.out)).trans HG.out); have HW5 := Aside0.mk (HW4.out.below hb5); have HT5 : Aside0 (∃ cells, W5.heap[g6]? = some (.cells cells 22 (0, 0))) := ⟨by obtain ⟨cl, hcl⟩ := HTY.out; exact ⟨cl, (HB5.out.block _ HGL.out.2).trans hcl⟩⟩; clear hb5 hr5; obtain ⟨Ar, cr, rfl⟩ := Kd.R_slice HN5.out)
              | ((with_reducible refine gate_store (t := 22) (p := 63) (v := .tmp 62) rfl ?_); obtain ⟨oc, hoc, _, hocc, _⟩ := Kd.R_elem HR5.out [] (m : Int) (by omega) (by omega); refine Kd.R_store (Kd.slice 3 (Kd.int .i64)) (w0 := W5) (W := W5) D rfl rfl 22 (.tmp 63) (.tmp 62) rfl 22 (g := g6) (n := c.length) (cap := c6) (o' := m) (m : Int) 0 (outJ s c j) (bps s c j) (.slice Ar (bps s c j).length cr) [.slice Ar (bps s c j).length cr] oc (fun x => D ≤ x) (fun x => W.heap.size ≤ x) rfl (by simp [Kd.slice]) rfl rfl (by kernel_rfl) (by simp [Value.oneCell']) HR5.out (by omega) (by omega) hoc hocc (by simp [Kd.slice]) ⟨_, by rw [List.drop_eq_nil_of_le (by rw [hoc]; simp [Kd.slice])]; rfl, Kd.R_lower HN5.out (by have := HGL.out; omega)⟩ (fun q hq => by have := HGL.out; have := HDD.out; omega) (Below.refl _ _) ?_; intro w7 hR7 hB7 hg7; rw [Int.toNat_natCast, HOS.out] at hR7; have HR7 := Aside0.mk hR7; have HW7 := Aside0.mk (HW5.out.over HDW.out hB7 hg7 HT5.out); have HG7 : Aside0 (w7.heap[V3.heap.size]? = some (.cells (sp (bps s c j)) 60 (0, 0))) := ⟨blk_grown HG5.out hg7 (fun e => by obtain ⟨cl, hcl⟩ := HT5.out; have e2 : g6 = V3.heap.size := (Option.some.inj e).symm; rw [e2, HG5.out] at hcl; cases hcl)⟩; clear hR7 hB7 hg7 hoc hocc))
            go_roundw
            case rel =>
              have hmm := HMM.out
              refine ⟨j + 1, 91, _, by have := HJ.out; omega, ?_, rfl, ⟨from_fr HW7.out.h1 HG7.out hk3 HPP.out⟩, HW7, HR7⟩
              congr 1
              omega
            case measure => simp [intOf]
          · go_upto_region 13 with (fail)
            clear c0 c1 c2 c3 c4 hx hy r0 r1 r2 f0 f1 f2 hne1 hne2 hne3 hne4 hne5 hne6
            refine wpc_world (fun W => Aside0 (Below wr.heap.size wr W) ∧ Aside0 (W.heap[wr.heap.size]? = some (.cells (sp (bps s c j)) 60 (0, 0)))) ⟨⟨((HB3.out.setCell (Nat.le_refl _) _).setCell (Nat.le_refl _) _).setCell (Nat.le_refl _) _⟩, ⟨sp_store3 _ HG3.out⟩⟩ ?_
            rintro W ⟨HBW, HG⟩
            have HW4 := Aside0.mk (HW.out.below HBW.out)
            have HR4 := Aside0.mk (Kd.R_below HR.out HBW.out)
            obtain ⟨g6, c6, e6, hg6, hg6', hty⟩ := Kd.R_form HR4.out (by rw [outJ_len]; omega)
            have HTY := Aside0.mk hty
            have HGL := Aside0.mk (And.intro hg6 hg6')
            clear hg6 hg6' hty
            rw [outJ_len] at e6
            subst e6
            obtain ⟨⟨c0, c1, c2, c3, c4⟩, _⟩ := hl_read HW4.out.h1
            obtain ⟨r0, r1, r2, _, _, _⟩ := sp_read HG.out
            have hk3' : (s.length : Int) ≤ 3 := by omega
            go_wp2_with (first
              | (go_at_call 86; refine (clone_sp wr.heap.size s.length (bps s c j) _ HG.out HPP.out.len hk3).mono ?_; rintro e W5 ⟨vr, rfl, hr5, hb5⟩; have HB5 := Aside0.mk hb5; have HR5 := Aside0.mk (Kd.R_below HR4.out hb5); have HN5 := Aside0.mk hr5; have HG5 := Aside0.mk ((hb5.block _ (blk_lt HG.out)).trans HG.out); have HW5 := Aside0.mk (HW4.out.below hb5); have HT5 : Aside0 (∃ cells, W5.heap[g6]? = some (.cells cells 22 (0, 0))) := ⟨by obtain ⟨cl, hcl⟩ := HTY.out; exact ⟨cl, (HB5.out.block _ HGL.out.2).trans hcl⟩⟩; clear hb5 hr5; obtain ⟨Ar, cr, rfl⟩ := Kd.R_slice HN5.out)
              | ((with_reducible refine gate_store (t := 22) (p := 63) (v := .tmp 62) rfl ?_); obtain ⟨oc, hoc, _, hocc, _⟩ := Kd.R_elem HR5.out [] (m : Int) (by omega) (by omega); refine Kd.R_store (Kd.slice 3 (Kd.int .i64)) (w0 := W5) (W := W5) D rfl rfl 22 (.tmp 63) (.tmp 62) rfl 22 (g := g6) (n := c.length) (cap := c6) (o' := m) (m : Int) 0 (outJ s c j) (bps s c j) (.slice Ar (bps s c j).length cr) [.slice Ar (bps s c j).length cr] oc (fun x => D ≤ x) (fun x => W.heap.size ≤ x) rfl (by simp [Kd.slice]) rfl rfl (by kernel_rfl) (by simp [Value.oneCell']) HR5.out (by omega) (by omega) hoc hocc (by simp [Kd.slice]) ⟨_, by rw [List.drop_eq_nil_of_le (by rw [hoc]; simp [Kd.slice])]; rfl, Kd.R_lower HN5.out (by have := HGL.out; omega)⟩ (fun q hq => by have := HGL.out; have := HDD.out; omega) (Below.refl _ _) ?_; intro w7 hR7 hB7 hg7; rw [Int.toNat_natCast, HOS.out] at hR7; have HR7 := Aside0.mk hR7; have HW7 := Aside0.mk (HW5.out.over HDW.out hB7 hg7 HT5.out); have HG7 : Aside0 (w7.heap[wr.heap.size]? = some (.cells (sp (bps s c j)) 60 (0, 0))) := ⟨blk_grown HG5.out hg7 (fun e => by obtain ⟨cl, hcl⟩ := HT5.out; have e2 : g6 = wr.heap.size := (Option.some.inj e).symm; rw [e2, HG5.out] at hcl; cases hcl)⟩; clear hR7 hB7 hg7 hoc hocc))
            go_roundw
            case rel =>
              have hmm := HMM.out
              refine ⟨j + 1, 91, _, by have := HJ.out; omega, ?_, rfl, ⟨from_fr HW7.out.h1 HG7.out hk3 HPP.out⟩, HW7, HR7⟩
              congr 1
              omega
            case measure => simp [intOf]
        · obtain rfl : j = c.length := by omega
          rw [show (c.length : Int) - 1 - c.length = -1 from by omega]
          go_wp2
          go_ret
          exact ⟨v6, rfl, Kd.R_mono (Kd.R_lower HR.out (by omega)) (fun q hq => by omega), HW.out.hb⟩
end Go.Proofs.Ythadaajgjloogaa.L
