import Derived.Test.YthadaajgjloogaaQj
namespace Go.Proofs.Ythadaajgjloogaa.L
open Go.RowKit Go.Shelf Go.Proofs.YthadaajgjloogaaW.PrintWords Go.Proofs.YthadaajgjloogaaW.PrintLast Go.Proofs.YthadaajgjloogaaW.PrintMore
attribute [local go_sem] max2_int min2_int max_two min_two max_three min_three max_four min_four
attribute [local go_sem] Oper.semAt_some

/-! ### LiftsShifts (7) -/
abbrev OwnI (W : World) (B : Nat) (v : Value) (xs : List Int) : Prop := Kd.R (Kd.int .i64) 3 W B (fun _ => True) v xs
theorem OwnI.lt {W : World} {B : Nat} {v : Value} {xs : List Int} (h : OwnI W B v xs) : ∀ k, v.ownBlock = some k → B ≤ k ∧ k < W.heap.size := by
  obtain ⟨_, ho⟩ := Kd.R_own h
  exact fun k hk => ⟨own_base ho k hk, own_lt ho k hk⟩
theorem OwnI.grown {W w1 : World} {B : Nat} {v : Value} {xs : List Int} (h : OwnI W B v xs) {row : Option Nat} (hg : W.grownBy w1 row) (hne : ∀ k, v.ownBlock = some k → some k ≠ row) : OwnI w1 B v xs :=
  Kd.R_mono (Kd.R_grown (ok := fun k => v.ownBlock = some k) (Kd.R_flat (fun h => h) h fun _ hk _ => hk) hg hne) fun _ _ => trivial
/-- Own rows apart from each other. -/
def Apt (u v : Value) : Prop := ∀ k, u.ownBlock = some k → v.ownBlock ≠ some k
theorem Apt.symm {u v : Value} (h : Apt u v) : Apt v u := fun k hv hu => h k hu hv
theorem Apt.new {u v v1 : Value} {W : World} (h : Apt u v) (hu : ∀ k, u.ownBlock = some k → k < W.heap.size) (hat : v1.ownBlock = v.ownBlock ∨ ∃ b, v1.ownBlock = some b ∧ W.heap.size ≤ b) : Apt u v1 := by
  intro k hk he
  rcases hat with e | ⟨b, e, hb⟩
  · exact h k hk (by rw [← e]; exact he)
  · rw [e] at he; injection he with he; have := hu k hk; omega
theorem apt_nil (u : Value) : Apt u (.slice none 0 0) := fun k _ h => by simp [Value.ownBlock] at h
theorem apt_ne {u v : Value} (h : Apt u v) : ∀ k, u.ownBlock = some k → some k ≠ v.ownBlock := fun k hk e => h k hk e.symm
theorem below_of_rowV {w U X : World} {row : Option Nat} (h1 : Below w.heap.size w U) (h2 : U.grownBy X row) (hb : ∀ b, row = some b → w.heap.size ≤ b) : Below w.heap.size w X :=
  ⟨h2.os.trans h1.os, h2.tape.trans h1.tape, h2.output.trans h1.output, Nat.le_trans h1.size h2.size, fun i hi => (h2.block i (Nat.lt_of_lt_of_le hi h1.size) (fun e => by have := hb i e.symm; omega)).trans (h1.block i hi)⟩
theorem mod_calls (x n : Int) (hn : 1 ≤ n ∧ n ≤ 1000) (w : World) : Calls Try.prog 31 #[.int .i64 x, .int .i64 n] w fun e w' => e = .returned (.int .i64 (modF x n)) ∧ Below w.heap.size w w' :=
  (PLiftsCompetes.turndownlaw07_mod.calls x n _ w (mod_f x n hn)).mono fun _ _ h => ⟨h.1, h.2.below⟩
theorem tu_rd {s : List Int} {j : Nat} (h : j < s.length) : rd (tuF s) (j : Int) = 30 - rd s ((s.length - 1 - j : Nat) : Int) := by
  simp [rd, tuF, List.getD, h, show s.length - 1 - j < s.length by omega]
theorem set_snoc (pre rest : List Int) (x y : Int) : (pre ++ x :: rest).set pre.length y = (pre ++ [y]) ++ rest := by simp
theorem rd_mid (pre rest : List Int) (x : Int) : rd (pre ++ x :: rest) (pre.length : Int) = x := by simp [rd, List.getD]

/-! ### the plain side in one piece -/
theorem hall_low {s c : List Int} (hk1 : 1 ≤ s.length) (hk3 : s.length ≤ 3) (h : s ∈ allP s.length) (hl : c.length ≤ 40) (hc : ∀ y ∈ c, 0 ≤ y ∧ y ≤ 20) : hallB s c = true := by
  simp only [hallB, Bool.and_eq_true]
  exact ⟨posB_of_allP hk1 hk3 h, (callsB_iff _).2 ⟨hl, fun y hy => by have := hc y hy; omega⟩⟩
structure Shp (s c : List Int) (b : Int) : Prop where
  hu : hallB (s.map (· + b)) (c.map (· + b)) = true
  ht : hallB (tuF s) (c.map fun x => 30 - x) = true
  hw : hallB s (twF c) = true
  cu : runC cS (s.map (· + b)) (c.map (· + b)) = runC cS s c
  ct : runC cS (tuF s) (c.map fun x => 30 - x) = runC cS s c
  cw : runC cS s (twF c) = runC cS s c
  bu : bestC (s.map (· + b)) (c.map (· + b)) = bestC s c
  bt : bestC (tuF s) (c.map fun x => 30 - x) = bestC s c
  bw : bestC s (twF c) = bestC s c
  l0 : (runL cS s c).length = c.length
  lu : (runL cS (s.map (· + b)) (c.map (· + b))).length = c.length
  lt : (runL cS (tuF s) (c.map fun x => 30 - x)).length = c.length
  ok : ∀ i, i < c.length → rL (runL cS s c) i ∈ allP s.length
  ru : ∀ i, i < c.length → rL (runL cS (s.map (· + b)) (c.map (· + b))) i = (rL (runL cS s c) i).map (· + b)
  rt : ∀ i, i < c.length → rL (runL cS (tuF s) (c.map fun x => 30 - x)) i = tuF (rL (runL cS s c) i)
theorem shp {s c : List Int} (hh : hallB s c = true) (hs : ∀ x ∈ s, x ≤ 20) (hc : ∀ x ∈ c, x ≤ 20) {b : Int} (hb : 0 ≤ b ∧ b ≤ 10) (hl : c.length ≤ 20) : Shp s c b := by
  have e1 : (c.map (· + b)).length = c.length := List.length_map _
  have e2 : (c.map fun x => 30 - x).length = c.length := List.length_map _
  have r (s c : List Int) (i : Nat) (h : i < c.length) : rL (runL cS s c) i = (stepS cS () s c (i + 1)).2.1 := stepS_rL cS () s c c.length i h
  have g (s c : List Int) (n : Nat) (h : c.length = n) : runC cS s c = (stepS cS () s c n).2.2.2 := by subst h; rfl
  refine ⟨hall_shift hh hs hc hb, hall_turn hh, hall_twice hh hl, ?_, ?_, ?_, best_shift hh hs hc hb, best_turn hh, best_twice hh hl, run_len _ _ _, by rw [run_len, e1], by rw [run_len, e2], fun i hi => ?_, fun i hi => ?_, fun i hi => ?_⟩
  · rw [g _ _ _ e1, g s c _ rfl]; exact (run_shift hh hs hc b c.length (Nat.le_refl _)).2
  · rw [g _ _ _ e2, g s c _ rfl]; exact (run_turn hh c.length (Nat.le_refl _)).2
  · rw [g _ _ _ (tw_len c), g s c _ rfl]; exact (run_twice hh c.length (Nat.le_refl _)).2
  · rw [r _ _ _ hi]; exact cS_ok hh (i + 1) (by omega)
  · rw [r _ _ _ hi, r _ _ _ (by rw [e1]; exact hi)]; exact (run_shift hh hs hc b (i + 1) (by omega)).1
  · rw [r _ _ _ hi, r _ _ _ (by rw [e2]; exact hi)]; exact (run_turn hh (i + 1) (by omega)).1
/-- A schedule of `m` rows, its cost. -/
def SchedN (w : World) (rows : List (List Int)) (m : Nat) (n : Int) (e : Ending) (w' : World) : Prop :=
  ∃ A c, e = .returned (.tuple #[.slice A m c, .int .i64 n, .int .i64 0]) ∧ Kd.C (Kd.slice 3 (Kd.int .i64)) w' A rows.length rows ∧ Below w.heap.size w w'
/-- A cost. -/
def CostN (w : World) (n : Int) (e : Ending) (w' : World) : Prop := ∃ v, e = .returned (.tuple #[v, .int .i64 n, .int .i64 0]) ∧ Below w.heap.size w w'
theorem car_n (A B : Option Addr) (ca cb : Nat) {s c : List Int} (hh : hallB s c = true) {m : Nat} {n : Int} {X : List (List Int)} (hx : runL cS s c = X) (hm : X.length = m) (hn : runC cS s c = n) (w : World) (hr : Kd.C (Kd.int .i64) w A s.length s) (hq : Kd.C (Kd.int .i64) w B c.length c) :
    Calls Try.prog 27 #[.slice A s.length ca, .slice B c.length cb] w (SchedN w X m n) := by
  subst hx hm hn
  exact (Careful_s A B ca cb s c w hh hr hq).mono fun e w' ⟨A, c, h1, _, h2, h3⟩ => ⟨A, c, h1, h2, h3⟩
theorem car_c (A B : Option Addr) (ca cb : Nat) {s c : List Int} (hh : hallB s c = true) {n : Int} (hn : runC cS s c = n) (w : World) (hr : Kd.C (Kd.int .i64) w A s.length s) (hq : Kd.C (Kd.int .i64) w B c.length c) :
    Calls Try.prog 27 #[.slice A s.length ca, .slice B c.length cb] w (CostN w n) := by
  subst hn
  exact (Careful_s A B ca cb s c w hh hr hq).mono fun e w' ⟨A, c, h1, _, h2, h3⟩ => ⟨_, h1, h3⟩
theorem best_n (A B : Option Addr) (ca cb : Nat) {s c : List Int} (hh : hallB s c = true) {n : Int} (hn : bestC s c = n) (w : World) (hr : Kd.C (Kd.int .i64) w A s.length s) (hq : Kd.C (Kd.int .i64) w B c.length c) :
    Calls Try.prog 30 #[.slice A s.length ca, .slice B c.length cb] w (CostN w n) := by
  subst hn
  exact (Best_s A B ca cb s c w hh hr hq).mono fun e w' ⟨A, c, h1, _, h2, h3⟩ => ⟨_, h1, h3⟩
theorem tu_lenV (p : List Int) : (tuF p).length = p.length := by simp [tuF]
theorem grown_hi {W0 X w1 : World} {row row2 : Option Nat} (h1 : W0.grownBy X row) (h2 : X.grownBy w1 row2) (h : ∀ b, row2 = some b → W0.heap.size ≤ b) : W0.grownBy w1 row :=
  ⟨h2.os.trans h1.os, h2.tape.trans h1.tape, h2.output.trans h1.output, Nat.le_trans h1.size h2.size, fun i hi hne => (h2.block i (Nat.lt_of_lt_of_le hi h1.size) (fun e => by have := h i e.symm; omega)).trans (h1.block i hi hne)⟩
set_option maxRecDepth 100000 in
set_option maxHeartbeats 16000000 in
theorem shiftsLaw (A C : Option Addr) (ca cc : Nat) (l0 l1 : List Int) (by0 : Int) (w : World) (hr : Kd.C (Kd.int .i64) w A l0.length l0) (hca : l0.length ≤ ca) (hq : Kd.C (Kd.int .i64) w C l1.length l1) (hcc : l1.length ≤ cc) (_hby : -9223372036854775808 ≤ by0 ∧ by0 ≤ 9223372036854775807) :
    Calls Try.prog 7 #[.slice A l0.length ca, .slice C l1.length cc, .int .i64 by0] w fun e w' => e = .returned (.bool true) ∧ Below w.heap.size w w' := by
  have HR := Aside0.mk hr
  have HQ := Aside0.mk hq
  have HCA := Aside0.mk hca
  have HCC := Aside0.mk hcc
  have HB := Aside0.mk (Below.refl w.heap.size w)
  have HK := Aside0.mk (liftedF_range l0)
  have hmx := Kd.C_max hr
  clear hr hq hca hcc _hby
  go_enter Try.func7, Try.ntmps7
  go_upto_region 2 with ((with_reducible refine (lifted_calls A ca l0 _ HR.out HCA.out).mono ?_); rintro e W1 ⟨rfl, hb⟩; have HR1 := Aside0.mk (Kd.C_below HR.out hb); have HQ1 := Aside0.mk (Kd.C_below HQ.out hb); have HB1 := Aside0.mk (below_step HB.out hb); have HZ1 := Aside0.mk hb.size; clear hb)
  have hk1 := HK.out.1
  have hk3 := HK.out.2
  generalize liftedF l0 = k at *
  clear HR HQ HB
  go_upto_region 4 with (first
    | ((with_reducible refine (tame_calls A ca l0 k hk3 _ HR1.out HCA.out).mono ?_); rintro e W2 ⟨A2, c2, rfl, hc2, hr2, hb⟩; have HS := Aside0.mk hr2; have HQ2 := Aside0.mk (Kd.C_below HQ1.out hb); have HB2 := Aside0.mk (below_step HB1.out hb); have HL2 := Aside0.mk (fun q hq => (OwnI.lt hr2 q hq).2); have HS1 := Aside0.mk hb.size; clear hb hr2 hc2)
    | ((with_reducible refine (calls25_calls C cc l1 15 15 rfl (by omega) _ HQ2.out HCC.out).mono ?_); rintro e W3 ⟨B2, d2, rfl, hd2, hr2, hb⟩; have HCr := Aside0.mk hr2; have HS' := Aside0.mk (Kd.R_below HS.out hb); clear HS; have HS := HS'; clear HS'; have HB3 := Aside0.mk (below_step HB2.out hb); have HS2 := Aside0.mk hb.size; clear hb hr2 hd2)
    | ((with_reducible refine (mod_calls by0 11 (by omega) _).mono ?_); rintro e W4 ⟨rfl, hb⟩; have HS' := Aside0.mk (Kd.R_below HS.out hb); clear HS; have HS := HS'; clear HS'; have HC' := Aside0.mk (Kd.R_below HCr.out hb); clear HCr; have HCr := HC'; clear HC'; have HB4 := Aside0.mk (below_step HB3.out hb); have HS3 := Aside0.mk hb.size; clear hb))
  clear HB1 HB2 HB3 HQ1 HQ2 HR1 HCA HCC
  have hby := modF_range by0 (n := 11) (by omega)
  have HP := Aside0.mk (tameF_allP l0 hk3)
  have HCL := Aside0.mk (callsF_len l1 15)
  have HCR := Aside0.mk (callsF_range l1 15)
  generalize modF by0 11 = bb at *
  generalize tameF l0 k = s at *
  generalize callsF l1 15 = c at *
  have HSL : Aside0 (s.length = k) := ⟨allP_len HP.out⟩
  have hs1 : s.length ≤ k := Nat.le_of_eq HSL.out
  have hs2 : k ≤ s.length := Nat.le_of_eq HSL.out.symm
  obtain ⟨g, cap, e1, hgB, hgl, _⟩ := Kd.R_form HS.out (by omega)
  injection e1 with e1 e9 e2
  clear e9
  subst e1
  subst e2
  have hgW2 : g < W2.heap.size := HL2.out g (by simp [Value.ownBlock])
  have hW12 := HS1.out
  have hW23 := HS2.out
  have hW34 := HS3.out
  have hW1 := HZ1.out
  go_upto_region 5 with (fail)
  have HB4z := Aside0.mk HB4.out.size
  have hkI : (k : Int) ≤ 3 := by omega
  go_wp2
  go_loopw [15] (fun v15 wr => ∃ (j : Nat) (pre rest : List Int), j ≤ k ∧ v15 = .int .i64 j ∧ pre.length = j ∧ pre.length + rest.length = s.length ∧ Aside0 (OwnI wr W1.heap.size (.slice (some ⟨g, 0, none⟩) s.length c2) (pre ++ rest) ∧ (∀ y ∈ pre, 0 ≤ y ∧ y ≤ 20) ∧ (∀ y ∈ rest, 0 ≤ y ∧ y ≤ 30)) ∧ Aside0 (W4.grownBy wr (some g))) (fun v15 _ => k - (intOf v15).toNat)
  case atStart => exact ⟨0, [], s, Nat.zero_le _, rfl, rfl, by simp, ⟨HS.out, by simp, (allP_pos HP.out).all⟩, ⟨grown_of_below (Below.refl _ _) _⟩⟩
  case round =>
    clear HS
    obtain ⟨j, pre, rest, hj, rfl, rfl, hlen, HO, HG⟩ := hrel
    by_cases hlt : pre.length < k
    · obtain ⟨x, rest', rfl⟩ : ∃ x r, rest = x :: r := by
        cases rest with
        | nil => simp at hlen; omega
        | cons x r => exact ⟨x, r, rfl⟩
      simp only [List.length_cons] at hlen
      obtain ⟨hcell, _⟩ := Kd.R_celln 0 HO.out.1 (pre.length : Int) (by omega) (by omega)
      rw [Int.toNat_natCast, show rdOf 0 (pre ++ x :: rest') (pre.length : Int) = x from rd_mid pre rest' x] at hcell
      have hx := HO.out.2.2 x (by simp)
      have hm := modF_range x (n := 21) (by omega)
      have hpl : pre.length < s.length := by omega
      go_wp2_with ((with_reducible refine (mod_calls x 21 (by omega) _).mono ?_); rintro e W5 ⟨rfl, hd⟩; have HO5 := Aside0.mk (Kd.R_below HO.out.1 hd); have HG5 := Aside0.mk (grownBy_trans' HG.out (grown_of_below hd _)); clear hd; obtain ⟨hc5, hf5⟩ := Kd.R_celln 0 HO5.out (pre.length : Int) (by omega) (by omega); rw [Int.toNat_natCast] at hc5 hf5)
      have HPUT := Aside0.mk (Kd.R_putn HO5.out (pre.length : Int) (modF x 21))
      rw [Int.toNat_natCast, set_snoc] at HPUT
      have HGP : Aside0 (W4.grownBy (W5.setCell ⟨g, pre.length, none⟩ (.int .i64 (modF x 21))) (some g)) := ⟨⟨HG5.out.os, HG5.out.tape, HG5.out.output, by simpa [World.setCell] using HG5.out.size, fun i hi hne => (Below.heap_setCell _ _ _ _ (fun e => hne (by rw [e]))).trans (HG5.out.block i hi hne)⟩⟩
      have HPR : Aside0 ((∀ y ∈ pre ++ [modF x 21], 0 ≤ y ∧ y ≤ 20) ∧ (∀ y ∈ rest', 0 ≤ y ∧ y ≤ 30)) := ⟨⟨fun y hy => by
        rcases List.mem_append.1 hy with hy | hy
        · exact HO.out.2.1 y hy
        · simp at hy; omega, fun y hy => HO.out.2.2 y (by simp [hy])⟩⟩
      clear hcell hc5 hf5
      go_roundw
      case rel => exact ⟨pre.length + 1, pre ++ [modF x 21], rest', by omega, by go_num, by simp, by simp; omega, ⟨HPUT.out, HPR.out.1, HPR.out.2⟩, HGP⟩
      case measure => simp [intOf]; omega
    · obtain rfl : rest = [] := by
        cases rest with
        | nil => rfl
        | cons x r => simp at hlen; omega
      rw [List.append_nil] at HO
      have hpk : pre.length = k := by omega
      have HPS : Aside0 (Pos k pre) := ⟨⟨hpk, fun y hy => by have := HO.out.2.1 y hy; omega⟩⟩
      have H20 : Aside0 (∀ y ∈ tameF pre k, y ≤ 20) := ⟨fun y hy => by
        rw [tameF_own HPS.out, srt_mem] at hy
        exact (HO.out.2.1 y hy).2⟩
      have HTM : Aside0 (Calls Try.prog 24 #[.slice (some ⟨g, 0, none⟩) s.length c2, .int .i64 k] wr (Made wr (tameF pre k))) := ⟨by
        have h1 := Kd.R_reads' HO.out.1
        have h2 := tame_calls (some ⟨g, 0, none⟩) c2 pre k hk3 wr h1.2.2 (by have e1 := h1.1; have e2 := h1.2.1; omega)
        rw [hpk, ← HSL.out] at h2
        rw [← HSL.out]
        exact h2⟩
      have HBr : Aside0 (Below w.heap.size w wr) := ⟨below_of_rowV HB4.out HG.out (fun b e => by injection e with e; omega)⟩
      have HCr2 : Aside0 (OwnI wr W2.heap.size (.slice B2 c.length d2) c) := ⟨OwnI.grown HCr.out HG.out (fun q hq e => by have := (OwnI.lt HCr.out q hq).1; injection e with e; omega)⟩
      have HP2 := Aside0.mk (tameF_allP pre hk3)
      have hwrz := HG.out.size
      have HCl := Aside0.mk (fun q hq => (OwnI.lt HCr2.out q hq).2)
      clear HO HPS HP HCr HB4 HG
      generalize tameF pre k = s2 at *
      obtain rfl : s2.length = k := allP_len HP2.out
      go_upto_region 10 with ((with_reducible refine HTM.out.mono ?_); rintro e W5 ⟨A4, c4, rfl, hc4, hr4, hb⟩; have HS4 := Aside0.mk hr4; have HK4 := Aside0.mk hc4; have HCr3 := Aside0.mk (Kd.R_below HCr2.out hb); have HB5 := Aside0.mk (below_step HBr.out hb); have HZ5 := Aside0.mk hb.size; clear hb hr4 hc4)
      have hz5 := HZ5.out
      have hfl2 := Aside0.mk (allP_pos HP2.out).fl
      obtain ⟨hb0, hb1⟩ := hby
      clear HTM HBr HCr2
      go_wp2
      obtain ⟨Wm, rfl⟩ : ∃ Wm, Wm = wr := ⟨wr, rfl⟩
      go_loopw [10, 11, 16] (fun v10 v11 v16 wr => ∃ j : Nat, j ≤ s2.length ∧ v16 = .int .i64 j ∧ Aside0 (OwnI wr W5.heap.size v10 ((s2.map (· + bb)).take j) ∧ OwnI wr W5.heap.size v11 ((tuF s2).take j) ∧ Apt v10 v11) ∧ Aside0 (Below W5.heap.size W5 wr)) (fun _ _ v16 _ => s2.length - (intOf v16).toNat)
      case atStart => exact ⟨0, Nat.zero_le _, rfl, ⟨Kd.R_nil _ _ _ _ _, Kd.R_nil _ _ _ _ _, apt_nil _⟩, ⟨Below.refl _ _⟩⟩
      case round =>
        obtain ⟨j, hj, rfl, HO, HU⟩ := hrel
        by_cases hlt : j < s2.length
        · have HC5 := Aside0.mk (Kd.R_reads' HS4.out).2.2
          obtain ⟨a4, e4, hx⟩ := Kd.at_int (Kd.C_below HC5.out HU.out) (j : Int) (by omega) (by omega)
          subst e4
          rw [Int.toNat_natCast] at hx
          have hlk : s2.length - 1 - j < s2.length := by omega
          have hq0 : (0 : Int) ≤ (s2.length : Int) - 1 - j := by omega
          have hq1 : (s2.length : Int) - 1 - j < s2.length := by omega
          have hqz : ((s2.length : Int) - 1 - j).toNat = s2.length - 1 - j := by omega
          obtain ⟨x0, x1⟩ := hfl2.out j (by omega)
          obtain ⟨y0, y1⟩ := hfl2.out (s2.length - 1 - j) (by omega)
          have hwz := HU.out.size
          have HN1 : Aside0 ((s2.map (· + bb)).take (j + 1) = (s2.map (· + bb)).take j ++ [rd s2 j + bb]) := ⟨by rw [take_snocR _ _ (by simpa using hlt), rd_map _ hlt]⟩
          have HN2 : Aside0 ((tuF s2).take (j + 1) = (tuF s2).take j ++ [30 - rd s2 ((s2.length - 1 - j : Nat) : Int)]) := ⟨by rw [take_snocR _ _ (by simpa [tuF] using hlt), tu_rd hlt]⟩
          have hsz1 : (((s2.map (· + bb)).take j).length + 1) * 8 ≤ 140737488355328 := by rw [List.length_take]; omega
          have hsz2 : (((tuF s2).take j).length + 1) * 8 ≤ 140737488355328 := by rw [List.length_take]; omega
          generalize (s2.map (· + bb)).take j = P1 at *
          generalize (tuF s2).take j = P2 at *
          obtain ⟨y, hye⟩ : ∃ y, rd s2 ((s2.length - 1 - j : Nat) : Int) = y := ⟨_, rfl⟩
          have HY := Aside0.mk hye
          rw [hye] at y0 y1 HN2
          clear hye
          have hyc : Aside0 (∀ V, Below W5.heap.size W5 V → V.cell? (a4.add (s2.length - 1 - j)) = some (.int .i64 y)) := ⟨fun V hV => by
            obtain ⟨_, e, h⟩ := Kd.at_int (Kd.C_below HC5.out hV) ((s2.length - 1 - j : Nat) : Int) (by omega) (by omega)
            cases e
            rw [Int.toNat_natCast, HY.out] at h
            exact h⟩
          go_wp2_with (first
            | ((with_reducible refine gate_builtin (b := .append) (xs := #[.tmp 74, .tmp 81]) rfl ?_); at_builtin; refine Kd.R_append (Kd.int .i64) (w0 := wr) (W := wr) W5.heap.size rfl (.tmp 74) (.tmp 81) 22 3 (.int .i64 0) 8 rfl Try.underlying22 info3 rfl (by decide) (by omega) u10 P1 (rd s2 j + bb) [.int .i64 (rd s2 j + bb)] (fun _ => True) (fun _ => False) rfl rfl rfl (fun _ h => h.elim) (fun _ _ => trivial) HO.out.1 (Below.refl _ _) hwz hsz1 ?_; intro v1 w1 hR hBx hg hat; have HO1 := Aside0.mk hR; have HO2 := Aside0.mk (OwnI.grown HO.out.2.1 hg (apt_ne HO.out.2.2.symm)); have HA1 := Aside0.mk (Apt.new HO.out.2.2.symm (fun q hq => (OwnI.lt HO.out.2.1 q hq).2) hat); have HU1 := Aside0.mk (below_of_rowV HU.out hg (fun b e => (OwnI.lt HO.out.1 b e).1)); clear hR hBx hg hat; have hy := hyc.out w1 HU1.out; have hwz1 := HU1.out.size)
            | ((with_reducible refine gate_builtin (b := .append) (xs := #[.tmp 83, .tmp 92]) rfl ?_); at_builtin; refine Kd.R_append (Kd.int .i64) (w0 := w1) (W := w1) W5.heap.size rfl (.tmp 83) (.tmp 92) 22 3 (.int .i64 0) 8 rfl Try.underlying22 info3 rfl (by decide) (by omega) u11 P2 (30 - y) [.int .i64 (30 - y)] (fun _ => True) (fun _ => False) rfl rfl rfl (fun _ h => h.elim) (fun _ _ => trivial) HO2.out (Below.refl _ _) hwz1 hsz2 ?_; intro v2 w2 hR hBx hg hat; have HO3 := Aside0.mk hR; have HO4 := Aside0.mk (OwnI.grown HO1.out hg (apt_ne HA1.out.symm)); have HA2 := Aside0.mk (Apt.new HA1.out.symm (fun q hq => (OwnI.lt HO1.out q hq).2) hat); have HU2 := Aside0.mk (below_of_rowV HU1.out hg (fun b e => (OwnI.lt HO2.out b e).1)); clear hR hBx hg hat))
          go_roundw
          case rel => exact ⟨j + 1, by omega, by go_num, by rw [HN1.out, HN2.out]; exact ⟨⟨HO4.out, HO3.out, HA2.out⟩⟩, HU2⟩
          case measure => simp [intOf]; omega
        · obtain rfl : j = s2.length := by omega
          have e1 : (s2.map (· + bb)).take s2.length = s2.map (· + bb) := List.take_of_length_le (by simp)
          have e2 : (tuF s2).take s2.length = tuF s2 := List.take_of_length_le (by simp [tuF])
          rw [e1, e2] at HO
          clear e1 e2
          obtain ⟨W6, rfl⟩ : ∃ W6, W6 = wr := ⟨wr, rfl⟩
          have HS6 := Aside0.mk (Kd.R_below HS4.out HU.out)
          have HC6 := Aside0.mk (Kd.R_below HCr3.out HU.out)
          have HB6 := Aside0.mk (below_step HB5.out HU.out)
          have hz6 := HU.out.size
          go_upto_region 15 with (fail)
          have hfr : Aside0 (∀ q, (Value.slice B2 c.length d2).ownBlock = some q → q < W6.heap.size) := ⟨fun q hq => by have := HCl.out q hq; omega⟩
          have HOt := HO
          clear HO HS4 HCr3 HB5
          have hcl : c.length ≤ 15 := HCL.out
          have hcm : c.length ≤ 9223372036854775807 := by omega
          go_wp2
          go_loopw [12, 13, 14, 17] (fun v12 v13 v14 v17 wr => ∃ (pre rest : List Int), v17 = .int .i64 pre.length ∧ pre.length + rest.length = c.length ∧ Aside0 (OwnI wr W2.heap.size (.slice B2 c.length d2) (pre ++ rest) ∧ (∀ y ∈ pre, 0 ≤ y ∧ y ≤ 20) ∧ (∀ y ∈ rest, 0 ≤ y ∧ y ≤ 30)) ∧ Aside0 (OwnI wr W6.heap.size v12 (pre.map (· + bb)) ∧ OwnI wr W6.heap.size v13 (pre.map fun x => 30 - x) ∧ OwnI wr W6.heap.size v14 (twF pre)) ∧ Aside0 (Apt v12 v13 ∧ Apt v12 v14 ∧ Apt v13 v14) ∧ Aside0 (W6.grownBy wr (Value.slice B2 c.length d2).ownBlock)) (fun _ _ _ v17 _ => c.length - (intOf v17).toNat)
          case atStart => exact ⟨[], c, rfl, by simp, ⟨HC6.out, by simp, HCR.out⟩, ⟨Kd.R_nil _ _ _ _ _, Kd.R_nil _ _ _ _ _, Kd.R_nil _ _ _ _ _⟩, ⟨apt_nil _, apt_nil _, apt_nil _⟩, ⟨grown_of_below (Below.refl _ _) _⟩⟩
          case round =>
            clear HC6
            obtain ⟨pre, rest, rfl, hlen, HO, HV, HA, HG⟩ := hrel
            by_cases hlt : pre.length < c.length
            · obtain ⟨x, rest', rfl⟩ : ∃ x r, rest = x :: r := by
                cases rest with
                | nil => simp at hlen; omega
                | cons x r => exact ⟨x, r, rfl⟩
              simp only [List.length_cons] at hlen
              obtain ⟨gc, cap, eg, _, _, _⟩ := Kd.R_form HO.out.1 (by rw [List.length_append, List.length_cons]; omega)
              injection eg with eg1 eg9 eg2
              clear eg9
              subst eg1
              subst eg2
              have hgc : gc < W6.heap.size := hfr.out gc (by simp [Value.ownBlock])
              have HG : Aside0 (W6.grownBy wr (some gc)) := HG
              obtain ⟨hcell, _⟩ := Kd.R_celln 0 HO.out.1 (pre.length : Int) (by omega) (by omega)
              rw [Int.toNat_natCast, show rdOf 0 (pre ++ x :: rest') (pre.length : Int) = x from rd_mid pre rest' x] at hcell
              have hx := HO.out.2.2 x (by simp)
              have hm := modF_range x (n := 21) (by omega)
              have hne12 : Aside0 (∀ q, u12.ownBlock = some q → some q ≠ some gc) := ⟨fun q hq e => by have := (OwnI.lt HV.out.1 q hq).1; injection e with e; omega⟩
              have hne13 : Aside0 (∀ q, u13.ownBlock = some q → some q ≠ some gc) := ⟨fun q hq e => by have := (OwnI.lt HV.out.2.1 q hq).1; injection e with e; omega⟩
              have hne14 : Aside0 (∀ q, u14.ownBlock = some q → some q ≠ some gc) := ⟨fun q hq e => by have := (OwnI.lt HV.out.2.2 q hq).1; injection e with e; omega⟩
              have HLn := Aside0.mk hlen
              clear hlen
              go_upto_region 19 with ((with_reducible refine (mod_calls x 21 (by omega) _).mono ?_); rintro e W7 ⟨rfl, hd⟩; have HO7 := Aside0.mk (Kd.R_below HO.out.1 hd); have HD7 := Aside0.mk hd; clear hd; obtain ⟨hc5, hf5⟩ := Kd.R_celln 0 HO7.out (pre.length : Int) (by omega) (by omega); rw [Int.toNat_natCast] at hc5 hf5)
              have HGS : Aside0 (W7.grownBy (W7.setCell ⟨gc, pre.length, none⟩ (.int .i64 (modF x 21))) (some gc)) := ⟨⟨rfl, rfl, rfl, by simp [World.setCell], fun i hi hne => Below.heap_setCell _ _ _ _ (fun e => hne (by rw [e]))⟩⟩
              have HPUT := Aside0.mk (Kd.R_putn HO7.out (pre.length : Int) (modF x 21))
              rw [Int.toNat_natCast, set_snoc] at HPUT
              refine wpc_world (fun X => Aside0 (OwnI X W2.heap.size (.slice (some ⟨gc, 0, none⟩) c.length d2) ((pre ++ [modF x 21]) ++ rest')) ∧ Aside0 (OwnI X W6.heap.size u12 (pre.map (· + bb))) ∧ Aside0 (OwnI X W6.heap.size u13 (pre.map fun x => 30 - x)) ∧ Aside0 (OwnI X W6.heap.size u14 (twF pre)) ∧ Aside0 (W6.grownBy X (some gc))) ⟨HPUT, ⟨OwnI.grown (Kd.R_below HV.out.1 HD7.out) HGS.out hne12.out⟩, ⟨OwnI.grown (Kd.R_below HV.out.2.1 HD7.out) HGS.out hne13.out⟩, ⟨OwnI.grown (Kd.R_below HV.out.2.2 HD7.out) HGS.out hne14.out⟩, ⟨grownBy_trans' (grownBy_trans' HG.out (grown_of_below HD7.out _)) HGS.out⟩⟩ ?_
              have HPR : Aside0 ((∀ y ∈ pre ++ [modF x 21], 0 ≤ y ∧ y ≤ 20) ∧ (∀ y ∈ rest', 0 ≤ y ∧ y ≤ 30)) := ⟨⟨fun y hy => by
                rcases List.mem_append.1 hy with hy | hy
                · exact HO.out.2.1 y hy
                · simp at hy; omega, fun y hy => HO.out.2.2 y (by simp [hy])⟩⟩
              clear hcell hc5 hf5 HPUT HGS HO7 HD7 HV HG HO hne12 hne13 hne14
              rintro X ⟨FC, FU, FD, FT, FG⟩
              generalize modF x 21 = m at *
              have hpc : pre.length < c.length := hlt
              have hcx : Aside0 (∀ V, OwnI V W2.heap.size (.slice (some ⟨gc, 0, none⟩) c.length d2) ((pre ++ [m]) ++ rest') → V.cell? ⟨gc, pre.length, none⟩ = some (.int .i64 m)) := ⟨fun V h => by
                obtain ⟨h1, _⟩ := Kd.R_celln 0 h (pre.length : Int) (by omega) (by omega)
                rw [Int.toNat_natCast, show rdOf 0 ((pre ++ [m]) ++ rest') (pre.length : Int) = m from by rw [List.append_assoc, List.singleton_append]; exact rd_mid pre rest' m] at h1
                exact h1⟩
              have h0 := hcx.out X FC.out
              have hs1 : ((pre.map (· + bb)).length + 1) * 8 ≤ 140737488355328 := by simp; omega
              have hs2 : ((pre.map fun x => 30 - x).length + 1) * 8 ≤ 140737488355328 := by simp; omega
              have hs3 : ((twF pre).length + 2) * 8 ≤ 140737488355328 := by rw [tw_len]; omega
              have HN1 : Aside0 ((pre ++ [m]).map (· + bb) = pre.map (· + bb) ++ [m + bb]) := ⟨by simp⟩
              have HN2 : Aside0 ((pre ++ [m]).map (fun x => 30 - x) = (pre.map fun x => 30 - x) ++ [30 - m]) := ⟨by simp⟩
              have HN3 : Aside0 (twF (pre ++ [m]) = twF pre ++ [m, m]) := ⟨by simp [twF]⟩
              generalize pre.map (· + bb) = P1 at *
              generalize (pre.map fun x => 30 - x) = P2 at *
              generalize twF pre = P3 at *
              have hz0 := FG.out.size
              obtain ⟨hm0, hm1⟩ := hm
              go_upto_region 21 with (first
                | ((with_reducible refine gate_builtin (b := .append) (xs := #[.tmp 108, .tmp 115]) rfl ?_); at_builtin; refine Kd.R_append (Kd.int .i64) (w0 := X) (W := X) W6.heap.size rfl (.tmp 108) (.tmp 115) 22 3 (.int .i64 0) 8 rfl Try.underlying22 info3 rfl (by decide) (by omega) u12 P1 (m + bb) [.int .i64 (m + bb)] (fun _ => True) (fun _ => False) rfl rfl rfl (fun _ h => h.elim) (fun _ _ => trivial) FU.out (Below.refl _ _) hz0 hs1 ?_; intro v1 w1 hR hBx hg hat; have FU1 := Aside0.mk hR; have FD1 := Aside0.mk (OwnI.grown FD.out hg (apt_ne HA.out.1.symm)); have FT1 := Aside0.mk (OwnI.grown FT.out hg (apt_ne HA.out.2.1.symm)); have FC1 := Aside0.mk (OwnI.grown FC.out hg (fun q hq e => by have h1 := (OwnI.lt FU.out q e.symm).1; have h2 : gc = q := (by simpa [Value.ownBlock] using hq); omega)); have A12 := Aside0.mk (Apt.new HA.out.1.symm (fun q hq => (OwnI.lt FD.out q hq).2) hat); have A13 := Aside0.mk (Apt.new HA.out.2.1.symm (fun q hq => (OwnI.lt FT.out q hq).2) hat); have HS1' := Aside0.mk hg.size; have FG1 := Aside0.mk (hg.block); have FGr1 := Aside0.mk hg; clear hR hBx hg hat; have h0 := hcx.out w1 FC1.out; have hz1 : W6.heap.size ≤ w1.heap.size := Nat.le_trans hz0 HS1'.out)
                | ((with_reducible refine gate_builtin (b := .append) (xs := #[.tmp 117, .tmp 123]) rfl ?_); at_builtin; refine Kd.R_append (Kd.int .i64) (w0 := w1) (W := w1) W6.heap.size rfl (.tmp 117) (.tmp 123) 22 3 (.int .i64 0) 8 rfl Try.underlying22 info3 rfl (by decide) (by omega) u13 P2 (30 - m) [.int .i64 (30 - m)] (fun _ => True) (fun _ => False) rfl rfl rfl (fun _ h => h.elim) (fun _ _ => trivial) FD1.out (Below.refl _ _) hz1 hs2 ?_; intro v2 w2 hR hBx hg hat; have FD2 := Aside0.mk hR; have FU2 := Aside0.mk (OwnI.grown FU1.out hg (apt_ne A12.out.symm)); have FT2 := Aside0.mk (OwnI.grown FT1.out hg (apt_ne HA.out.2.2.symm)); have FC2 := Aside0.mk (OwnI.grown FC1.out hg (fun q hq e => by have h1 := (OwnI.lt FD1.out q e.symm).1; have h2 : gc = q := (by simpa [Value.ownBlock] using hq); omega)); have B12 := Aside0.mk (Apt.new A12.out.symm (fun q hq => (OwnI.lt FU1.out q hq).2) hat); have B23 := Aside0.mk (Apt.new HA.out.2.2.symm (fun q hq => (OwnI.lt FT1.out q hq).2) hat); have FGr2 := Aside0.mk hg; have HS2' := Aside0.mk hg.size; clear hR hBx hg hat; have h0 := hcx.out w2 FC2.out; have hz2 : W6.heap.size ≤ w2.heap.size := Nat.le_trans hz1 HS2'.out))
              have hz3 : W6.heap.size ≤ (w2.drew.alloc (.cells #[.int .i64 m, .int .i64 m] 3)).heap.size := Nat.le_trans hz2 (below_alloc (below_drew (Below.refl _ w2)) _).size
              have FB := Aside0.mk (below_alloc (below_drew (Below.refl w2.heap.size w2)) (.cells #[.int .i64 m, .int .i64 m] 3))
              have FCx := Aside0.mk (Kd.R_below FC2.out FB.out)
              have FUx := Aside0.mk (Kd.R_below FU2.out FB.out)
              have FDx := Aside0.mk (Kd.R_below FD2.out FB.out)
              have FTx := Aside0.mk (Kd.R_below FT2.out FB.out)
              have FGx : Aside0 (W6.grownBy (w2.drew.alloc (.cells #[.int .i64 m, .int .i64 m] 3)) (some gc)) := ⟨grownBy_trans' (grown_hi (grown_hi FG.out FGr1.out (fun b e => (OwnI.lt FU.out b e).1)) FGr2.out (fun b e => (OwnI.lt FD1.out b e).1)) (grown_of_below FB.out _)⟩
              go_region_held3 (fun U => U.cell? ⟨gc, pre.length, none⟩ = some (.int .i64 m)) (go_keep)
                ((first
                  | (refine Kd.R_append_rows_step (Kd.int .i64) (w0 := w2.drew.alloc (.cells #[.int .i64 m, .int .i64 m] 3)) (W := w2.drew.alloc (.cells #[.int .i64 m, .int .i64 m] 3)) W6.heap.size (by rfl) (.tmp 125) (.tmp 134) 22 3 (.int .i64 0) 8 (by rfl) Try.underlying22 info3 (by rfl) (by decide) (by omega) u14 P3 [m, m] (some ⟨w2.drew.heap.size, 0, none⟩) 2 2 (fun _ => True) (fun _ => False) (by rfl) (by rfl) FTx.out (C_two (aln _ _)) (fun _ _ h => h) (fun _ h => h.elim) (fun _ _ => trivial) (Below.refl _ _) hz3 hs3 ?_; intro v3 w3 hR hBx hg hat; have FT3 := Aside0.mk hR; have FC3 := Aside0.mk (OwnI.grown FCx.out hg (fun q hq e => by have h1 := (OwnI.lt FTx.out q e.symm).1; have h2 : gc = q := (by simpa [Value.ownBlock] using hq); omega)); have FU3 := Aside0.mk (OwnI.grown FUx.out hg (apt_ne A13.out.symm)); have FD3 := Aside0.mk (OwnI.grown FDx.out hg (apt_ne B23.out.symm)); have C13 := Aside0.mk (Apt.new A13.out.symm (fun q hq => (OwnI.lt FUx.out q hq).2) hat); have C23 := Aside0.mk (Apt.new B23.out.symm (fun q hq => (OwnI.lt FDx.out q hq).2) hat); have FG3 := Aside0.mk (grown_hi FGx.out hg (fun b e => (OwnI.lt FTx.out b e).1)); clear hR hBx hg hat; have h0 := hcx.out w3 FC3.out)))
              clear h0
              go_wp2
              go_roundw
              case rel => exact ⟨pre ++ [m], rest', by rw [List.length_append, List.length_singleton]; go_num, by have := HLn.out; simp; omega, ⟨FC3.out, HPR.out.1, HPR.out.2⟩, by rw [HN1.out, HN2.out, HN3.out]; exact ⟨⟨FU3.out, FD3.out, FT3.out⟩⟩, ⟨B12.out, C13.out, C23.out⟩, FG3⟩
              case measure => have := HLn.out; simp [intOf]; omega
            · obtain rfl : rest = [] := by
                cases rest with
                | nil => rfl
                | cons x r => simp at hlen; omega
              rw [List.append_nil] at HO
              have hpl : c.length = pre.length := by simpa using hlen.symm
              have h10 := OwnI.grown HOt.out.1 HG.out (fun q hq e => by have h1 := (OwnI.lt HOt.out.1 q hq).1; have h2 := HCl.out q e.symm; omega)
              have h11 := OwnI.grown HOt.out.2.1 HG.out (fun q hq e => by have h1 := (OwnI.lt HOt.out.2.1 q hq).1; have h2 := HCl.out q e.symm; omega)
              have h8 := OwnI.grown HS6.out HG.out (fun q hq e => by have h1 := (OwnI.lt HS6.out q hq).1; have h2 := HCl.out q e.symm; omega)
              have HB := Aside0.mk (below_of_rowV HB6.out HG.out (fun b e => by have := (OwnI.lt HO.out.1 b e).1; omega))
              have HPC := Aside0.mk HO.out.2.1
              have h9 := HO.out.1
              obtain ⟨h12, h13, h14⟩ := HV.out
              have hk1' : 1 ≤ s2.length := by omega
              have H8 := Aside0.mk (Kd.R_reads' h8).2.2
              have H9 := Aside0.mk (Kd.R_reads' h9).2.2
              obtain ⟨A10, c10, rfl, _, C10⟩ := Kd.R_reads h10
              obtain ⟨A11, c11, rfl, _, C11⟩ := Kd.R_reads h11
              obtain ⟨A12, c12, rfl, _, C12⟩ := Kd.R_reads h12
              obtain ⟨A13, c13, rfl, _, C13⟩ := Kd.R_reads h13
              obtain ⟨A14, c14, rfl, _, C14⟩ := Kd.R_reads h14
              have H10 := Aside0.mk C10
              have H11 := Aside0.mk C11
              have H12 := Aside0.mk C12
              have H13 := Aside0.mk C13
              have H14 := Aside0.mk C14
              have HH : Aside0 (hallB s2 pre = true) := ⟨hall_low hk1' hk3 HP2.out (by omega) HPC.out⟩
              have HSH : Aside0 (Shp s2 pre bb) := ⟨shp HH.out H20.out (fun x hx => (HPC.out x hx).2) ⟨hb0, by omega⟩ (by omega)⟩
              clear h8 h9 h10 h11 h12 h13 h14 C10 C11 C12 C13 C14 HO HV HA HG HS6 HOt HCl HB6 hfr hlen hlt
              generalize c.length = n0 at *
              obtain rfl : n0 = pre.length := hpl
              have HF0 : Aside0 (∀ V, Kd.C (Kd.int .i64) V A4 (s2).length (s2) → Kd.C (Kd.int .i64) V B2 (pre).length (pre) → Calls Try.prog 27 #[.slice A4 (s2).length c4, .slice B2 (pre).length d2] V (SchedN V (runL cS (s2) (pre)) pre.length (runC cS s2 pre))) := ⟨fun V h1 h2 => car_n A4 B2 c4 d2 HH.out rfl HSH.out.l0 rfl V h1 h2⟩
              have HG0 : Aside0 (∀ V, Kd.C (Kd.int .i64) V A4 (s2).length (s2) → Kd.C (Kd.int .i64) V B2 (pre).length (pre) → Calls Try.prog 30 #[.slice A4 (s2).length c4, .slice B2 (pre).length d2] V (CostN V (bestC s2 pre))) := ⟨fun V h1 h2 => best_n A4 B2 c4 d2 HH.out rfl V h1 h2⟩
              have HF1 : Aside0 (∀ V, Kd.C (Kd.int .i64) V A10 (s2.map (· + bb)).length (s2.map (· + bb)) → Kd.C (Kd.int .i64) V A12 (pre.map (· + bb)).length (pre.map (· + bb)) → Calls Try.prog 27 #[.slice A10 (s2.map (· + bb)).length c10, .slice A12 (pre.map (· + bb)).length c12] V (SchedN V (runL cS (s2.map (· + bb)) (pre.map (· + bb))) pre.length (runC cS s2 pre))) := ⟨fun V h1 h2 => car_n A10 A12 c10 c12 HSH.out.hu rfl HSH.out.lu HSH.out.cu V h1 h2⟩
              have HG1 : Aside0 (∀ V, Kd.C (Kd.int .i64) V A10 (s2.map (· + bb)).length (s2.map (· + bb)) → Kd.C (Kd.int .i64) V A12 (pre.map (· + bb)).length (pre.map (· + bb)) → Calls Try.prog 30 #[.slice A10 (s2.map (· + bb)).length c10, .slice A12 (pre.map (· + bb)).length c12] V (CostN V (bestC s2 pre))) := ⟨fun V h1 h2 => best_n A10 A12 c10 c12 HSH.out.hu HSH.out.bu V h1 h2⟩
              have HF2 : Aside0 (∀ V, Kd.C (Kd.int .i64) V A11 (tuF s2).length (tuF s2) → Kd.C (Kd.int .i64) V A13 (pre.map fun x => 30 - x).length (pre.map fun x => 30 - x) → Calls Try.prog 27 #[.slice A11 (tuF s2).length c11, .slice A13 (pre.map fun x => 30 - x).length c13] V (SchedN V (runL cS (tuF s2) (pre.map fun x => 30 - x)) pre.length (runC cS s2 pre))) := ⟨fun V h1 h2 => car_n A11 A13 c11 c13 HSH.out.ht rfl HSH.out.lt HSH.out.ct V h1 h2⟩
              have HG2 : Aside0 (∀ V, Kd.C (Kd.int .i64) V A11 (tuF s2).length (tuF s2) → Kd.C (Kd.int .i64) V A13 (pre.map fun x => 30 - x).length (pre.map fun x => 30 - x) → Calls Try.prog 30 #[.slice A11 (tuF s2).length c11, .slice A13 (pre.map fun x => 30 - x).length c13] V (CostN V (bestC s2 pre))) := ⟨fun V h1 h2 => best_n A11 A13 c11 c13 HSH.out.ht HSH.out.bt V h1 h2⟩
              have HF3 : Aside0 (∀ V, Kd.C (Kd.int .i64) V A4 (s2).length (s2) → Kd.C (Kd.int .i64) V A14 (twF pre).length (twF pre) → Calls Try.prog 27 #[.slice A4 (s2).length c4, .slice A14 (twF pre).length c14] V (CostN V (runC cS s2 pre))) := ⟨fun V h1 h2 => car_c A4 A14 c4 c14 HSH.out.hw HSH.out.cw V h1 h2⟩
              have HG3 : Aside0 (∀ V, Kd.C (Kd.int .i64) V A4 (s2).length (s2) → Kd.C (Kd.int .i64) V A14 (twF pre).length (twF pre) → Calls Try.prog 30 #[.slice A4 (s2).length c4, .slice A14 (twF pre).length c14] V (CostN V (bestC s2 pre))) := ⟨fun V h1 h2 => best_n A4 A14 c4 c14 HSH.out.hw HSH.out.bw V h1 h2⟩
              have hp1 := HSH.out.ok
              have hp2 := HSH.out.ru
              have hp3 := HSH.out.rt
              have HL0 := Aside0.mk HSH.out.l0
              have HLu := Aside0.mk HSH.out.lu
              have HLt := Aside0.mk HSH.out.lt
              clear HSH HH H20 HPC HP2
              generalize runL cS s2 pre = X0 at *
              generalize runL cS (s2.map (· + bb)) (pre.map (· + bb)) = Xu at *
              generalize runL cS (tuF s2) (pre.map fun x => 30 - x) = Xt at *
              generalize runC cS s2 pre = nc at *
              generalize bestC s2 pre = nb at *
              generalize s2.map (· + bb) = su at *
              generalize tuF s2 = st at *
              generalize pre.map (· + bb) = cu at *
              generalize (pre.map fun x => 30 - x) = ct at *
              generalize twF pre = cw at *
              have HP1 := Aside0.mk hp1
              have HP2 := Aside0.mk hp2
              have HP3 := Aside0.mk hp3
              clear hp1 hp2 hp3
              obtain ⟨Wn, rfl⟩ : ∃ Wn, Wn = wr := ⟨wr, rfl⟩
              go_upto_region 23 with ((with_reducible refine (HF0.out _ H8.out H9.out).mono ?_); rintro e W1 ⟨E0, e0, rfl, hx0, hb⟩; have H8' := Aside0.mk (Kd.C_below H8.out hb); clear H8; have H8 := H8'; clear H8'; have H9' := Aside0.mk (Kd.C_below H9.out hb); clear H9; have H9 := H9'; clear H9'; have H10' := Aside0.mk (Kd.C_below H10.out hb); clear H10; have H10 := H10'; clear H10'; have H11' := Aside0.mk (Kd.C_below H11.out hb); clear H11; have H11 := H11'; clear H11'; have H12' := Aside0.mk (Kd.C_below H12.out hb); clear H12; have H12 := H12'; clear H12'; have H13' := Aside0.mk (Kd.C_below H13.out hb); clear H13; have H13 := H13'; clear H13'; have H14' := Aside0.mk (Kd.C_below H14.out hb); clear H14; have H14 := H14'; clear H14'; have HB' := Aside0.mk (below_step HB.out hb); clear HB; have HB := HB'; clear HB'; have HX0 := Aside0.mk hx0; clear hb hx0)
              go_upto_region 24 with ((with_reducible refine (HF1.out _ H10.out H12.out).mono ?_); rintro e W2 ⟨E1, e1, rfl, hx1, hb⟩; have H8' := Aside0.mk (Kd.C_below H8.out hb); clear H8; have H8 := H8'; clear H8'; have H9' := Aside0.mk (Kd.C_below H9.out hb); clear H9; have H9 := H9'; clear H9'; have H10' := Aside0.mk (Kd.C_below H10.out hb); clear H10; have H10 := H10'; clear H10'; have H11' := Aside0.mk (Kd.C_below H11.out hb); clear H11; have H11 := H11'; clear H11'; have H12' := Aside0.mk (Kd.C_below H12.out hb); clear H12; have H12 := H12'; clear H12'; have H13' := Aside0.mk (Kd.C_below H13.out hb); clear H13; have H13 := H13'; clear H13'; have H14' := Aside0.mk (Kd.C_below H14.out hb); clear H14; have H14 := H14'; clear H14'; have HX0' := Aside0.mk (Kd.C_below HX0.out hb); clear HX0; have HX0 := HX0'; clear HX0'; have HB' := Aside0.mk (below_step HB.out hb); clear HB; have HB := HB'; clear HB'; have HX1 := Aside0.mk hx1; clear hb hx1)
              go_upto_region 25 with ((with_reducible refine (HF2.out _ H11.out H13.out).mono ?_); rintro e W3 ⟨E2, e2, rfl, hx2, hb⟩; have H8' := Aside0.mk (Kd.C_below H8.out hb); clear H8; have H8 := H8'; clear H8'; have H9' := Aside0.mk (Kd.C_below H9.out hb); clear H9; have H9 := H9'; clear H9'; have H10' := Aside0.mk (Kd.C_below H10.out hb); clear H10; have H10 := H10'; clear H10'; have H11' := Aside0.mk (Kd.C_below H11.out hb); clear H11; have H11 := H11'; clear H11'; have H12' := Aside0.mk (Kd.C_below H12.out hb); clear H12; have H12 := H12'; clear H12'; have H13' := Aside0.mk (Kd.C_below H13.out hb); clear H13; have H13 := H13'; clear H13'; have H14' := Aside0.mk (Kd.C_below H14.out hb); clear H14; have H14 := H14'; clear H14'; have HX0' := Aside0.mk (Kd.C_below HX0.out hb); clear HX0; have HX0 := HX0'; clear HX0'; have HX1' := Aside0.mk (Kd.C_below HX1.out hb); clear HX1; have HX1 := HX1'; clear HX1'; have HB' := Aside0.mk (below_step HB.out hb); clear HB; have HB := HB'; clear HB'; have HX2 := Aside0.mk hx2; clear hb hx2)
              go_upto_region 26 with ((with_reducible refine (HF3.out _ H8.out H14.out).mono ?_); rintro e W4 ⟨v3, rfl, hb⟩; have H8' := Aside0.mk (Kd.C_below H8.out hb); clear H8; have H8 := H8'; clear H8'; have H9' := Aside0.mk (Kd.C_below H9.out hb); clear H9; have H9 := H9'; clear H9'; have H10' := Aside0.mk (Kd.C_below H10.out hb); clear H10; have H10 := H10'; clear H10'; have H11' := Aside0.mk (Kd.C_below H11.out hb); clear H11; have H11 := H11'; clear H11'; have H12' := Aside0.mk (Kd.C_below H12.out hb); clear H12; have H12 := H12'; clear H12'; have H13' := Aside0.mk (Kd.C_below H13.out hb); clear H13; have H13 := H13'; clear H13'; have H14' := Aside0.mk (Kd.C_below H14.out hb); clear H14; have H14 := H14'; clear H14'; have HX0' := Aside0.mk (Kd.C_below HX0.out hb); clear HX0; have HX0 := HX0'; clear HX0'; have HX1' := Aside0.mk (Kd.C_below HX1.out hb); clear HX1; have HX1 := HX1'; clear HX1'; have HX2' := Aside0.mk (Kd.C_below HX2.out hb); clear HX2; have HX2 := HX2'; clear HX2'; have HB' := Aside0.mk (below_step HB.out hb); clear HB; have HB := HB'; clear HB'; clear hb )
              clear HF0 HF1 HF2 HF3
              have hpm : pre.length ≤ 9223372036854775807 := by omega
              obtain ⟨W9, rfl⟩ : ∃ W9, W9 = W4 := ⟨W4, rfl⟩
              go_upto_region 28 with (fail)
              have HK := Aside0.mk (Below.refl W9.heap.size W9)
              go_wp2
              go_loopw [30, 31] (fun v30 _ wr => ∃ i : Nat, i ≤ pre.length ∧ v30 = .int .i64 i ∧ Aside0 (Below W9.heap.size W9 wr)) (fun v30 _ _ => pre.length - (intOf v30).toNat)
              case atStart => exact ⟨0, Nat.zero_le _, rfl, HK⟩
              case round =>
                clear HK
                obtain ⟨i, hi, rfl, HK⟩ := hrel
                by_cases hlt : i < pre.length
                · have hP := HP1.out i hlt
                  have hpe := allP_len hP
                  obtain ⟨E0, A0, b0, rfl, hx0, _, hr0⟩ := PLiftsWorks.at_L1 (Kd.C_below HX0.out HK.out) (i : Int) (by omega) (by rw [HL0.out]; omega)
                  obtain ⟨E1, A1, b1, rfl, hx1, _, hr1⟩ := PLiftsWorks.at_L1 (Kd.C_below HX1.out HK.out) (i : Int) (by omega) (by rw [HLu.out]; omega)
                  obtain ⟨E2, Aw, b2, rfl, hx2, _, hr2⟩ := PLiftsWorks.at_L1 (Kd.C_below HX2.out HK.out) (i : Int) (by omega) (by rw [HLt.out]; omega)
                  rw [Int.toNat_natCast] at hx0 hx1 hx2
                  rw [show PLiftsWorks.rd_L1 X0 i = rL X0 i from rfl] at hx0 hr0
                  rw [show PLiftsWorks.rd_L1 Xu i = (rL X0 i).map (· + bb) from HP2.out i hlt, List.length_map] at hx1 hr1
                  rw [show PLiftsWorks.rd_L1 Xt i = tuF (rL X0 i) from HP3.out i hlt, tu_lenV] at hx2 hr2
                  have HFL := Aside0.mk (allP_pos hP).fl
                  generalize rL X0 i = p at *
                  rw [hpe] at hx0 hx1 hx2 hr0 hr1 hr2
                  have HPE := Aside0.mk hpe
                  have HR0 := Aside0.mk hr0
                  have HR1 := Aside0.mk hr1
                  have HR2 := Aside0.mk hr2
                  clear hr0 hr1 hr2 hpe hP
                  have HXc : Aside0 (∀ V, Below wr.heap.size wr V → V.cell? (E0.add i) = some (.slice A0 s2.length b0) ∧ V.cell? (E1.add i) = some (.slice A1 s2.length b1) ∧ V.cell? (E2.add i) = some (.slice Aw s2.length b2)) := ⟨fun V h => ⟨pw_cell_below h hx0, pw_cell_below h hx1, pw_cell_below h hx2⟩⟩
                  have hl0 : pre.length ≤ 9223372036854775807 := by omega
                  go_upto_region 33 with (fail)
                  clear hx0 hx1 hx2
                  have HU := Aside0.mk (Below.refl wr.heap.size wr)
                  obtain ⟨Wq, rfl⟩ : ∃ Wq, Wq = wr := ⟨wr, rfl⟩
                  go_wp2
                  go_loopw [31] (fun v31 wr => ∃ j : Nat, j ≤ s2.length ∧ v31 = .int .i64 j ∧ Aside0 (Below Wq.heap.size Wq wr)) (fun v31 _ => s2.length - (intOf v31).toNat)
                  case atStart => exact ⟨0, Nat.zero_le _, rfl, HU⟩
                  case round =>
                    clear HU
                    obtain ⟨j, hj, rfl, HU⟩ := hrel
                    by_cases hlj : j < s2.length
                    · have hlk : s2.length - 1 - j < s2.length := by omega
                      have hq0 : (0 : Int) ≤ (s2.length : Int) - 1 - j := by omega
                      have hq1 : (s2.length : Int) - 1 - j < s2.length := by omega
                      have hqz : ((s2.length : Int) - 1 - j).toNat = s2.length - 1 - j := by omega
                      obtain ⟨hx0, hx1, hx2⟩ := HXc.out wr HU.out
                      have hpe := HPE.out
                      obtain ⟨x0, x1⟩ := HFL.out j (by omega)
                      obtain ⟨y0, y1⟩ := HFL.out (s2.length - 1 - j) (by omega)
                      obtain ⟨a0, rfl, ha0⟩ := Kd.at_int (Kd.C_below HR0.out HU.out) (j : Int) (by omega) (by omega)
                      obtain ⟨_, e3, ha3⟩ := Kd.at_int (Kd.C_below HR0.out HU.out) ((s2.length - 1 - j : Nat) : Int) (by omega) (by omega)
                      cases e3
                      obtain ⟨a1, rfl, ha1⟩ := Kd.at_int (Kd.C_below HR1.out HU.out) (j : Int) (by omega) (by omega)
                      obtain ⟨a2, rfl, ha2⟩ := Kd.at_int (Kd.C_below HR2.out HU.out) (j : Int) (by omega) (by omega)
                      rw [Int.toNat_natCast] at ha0 ha1 ha2 ha3
                      rw [rd_map _ (by omega)] at ha1
                      rw [tu_rd (by omega), hpe] at ha2
                      clear hpe
                      generalize rd p ((s2.length - 1 - j : Nat) : Int) = y at *
                      generalize rd p (j : Int) = x at *
                      go_wp2
                      go_quiet (fail)
                      go_wp2
                      go_roundw
                      case rel => exact ⟨j + 1, by omega, by go_num, ⟨pw_below_drewN HU.out _⟩⟩
                      case measure => simp [intOf]; omega
                    · obtain rfl : j = s2.length := by omega
                      go_wp2
                      go_roundw
                      case rel => exact ⟨i + 1, by omega, by go_num, ⟨below_step HK.out HU.out⟩⟩
                      case measure => simp [intOf]; omega
                · obtain rfl : i = pre.length := by omega
                  have H8' := Aside0.mk (Kd.C_below H8.out HK.out); clear H8; have H8 := H8'; clear H8'
                  have H9' := Aside0.mk (Kd.C_below H9.out HK.out); clear H9; have H9 := H9'; clear H9'
                  have H10' := Aside0.mk (Kd.C_below H10.out HK.out); clear H10; have H10 := H10'; clear H10'
                  have H11' := Aside0.mk (Kd.C_below H11.out HK.out); clear H11; have H11 := H11'; clear H11'
                  have H12' := Aside0.mk (Kd.C_below H12.out HK.out); clear H12; have H12 := H12'; clear H12'
                  have H13' := Aside0.mk (Kd.C_below H13.out HK.out); clear H13; have H13 := H13'; clear H13'
                  have H14' := Aside0.mk (Kd.C_below H14.out HK.out); clear H14; have H14 := H14'; clear H14'
                  have HB' := Aside0.mk (below_step HB.out HK.out); clear HB; have HB := HB'; clear HB' HK HX0 HX1 HX2
                  go_upto_region 39 with ((with_reducible refine (HG0.out _ H8.out H9.out).mono ?_); rintro e W21 ⟨vb0, rfl, hb⟩; have H8' := Aside0.mk (Kd.C_below H8.out hb); clear H8; have H8 := H8'; clear H8'; have H9' := Aside0.mk (Kd.C_below H9.out hb); clear H9; have H9 := H9'; clear H9'; have H10' := Aside0.mk (Kd.C_below H10.out hb); clear H10; have H10 := H10'; clear H10'; have H11' := Aside0.mk (Kd.C_below H11.out hb); clear H11; have H11 := H11'; clear H11'; have H12' := Aside0.mk (Kd.C_below H12.out hb); clear H12; have H12 := H12'; clear H12'; have H13' := Aside0.mk (Kd.C_below H13.out hb); clear H13; have H13 := H13'; clear H13'; have H14' := Aside0.mk (Kd.C_below H14.out hb); clear H14; have H14 := H14'; clear H14'; have HB' := Aside0.mk (below_step HB.out hb); clear HB; have HB := HB'; clear HB'; clear hb )
                  go_upto_region 40 with ((with_reducible refine (HG1.out _ H10.out H12.out).mono ?_); rintro e W22 ⟨vb1, rfl, hb⟩; have H8' := Aside0.mk (Kd.C_below H8.out hb); clear H8; have H8 := H8'; clear H8'; have H9' := Aside0.mk (Kd.C_below H9.out hb); clear H9; have H9 := H9'; clear H9'; have H10' := Aside0.mk (Kd.C_below H10.out hb); clear H10; have H10 := H10'; clear H10'; have H11' := Aside0.mk (Kd.C_below H11.out hb); clear H11; have H11 := H11'; clear H11'; have H12' := Aside0.mk (Kd.C_below H12.out hb); clear H12; have H12 := H12'; clear H12'; have H13' := Aside0.mk (Kd.C_below H13.out hb); clear H13; have H13 := H13'; clear H13'; have H14' := Aside0.mk (Kd.C_below H14.out hb); clear H14; have H14 := H14'; clear H14'; have HB' := Aside0.mk (below_step HB.out hb); clear HB; have HB := HB'; clear HB'; clear hb )
                  go_upto_region 41 with ((with_reducible refine (HG2.out _ H11.out H13.out).mono ?_); rintro e W23 ⟨vb2, rfl, hb⟩; have H8' := Aside0.mk (Kd.C_below H8.out hb); clear H8; have H8 := H8'; clear H8'; have H9' := Aside0.mk (Kd.C_below H9.out hb); clear H9; have H9 := H9'; clear H9'; have H10' := Aside0.mk (Kd.C_below H10.out hb); clear H10; have H10 := H10'; clear H10'; have H11' := Aside0.mk (Kd.C_below H11.out hb); clear H11; have H11 := H11'; clear H11'; have H12' := Aside0.mk (Kd.C_below H12.out hb); clear H12; have H12 := H12'; clear H12'; have H13' := Aside0.mk (Kd.C_below H13.out hb); clear H13; have H13 := H13'; clear H13'; have H14' := Aside0.mk (Kd.C_below H14.out hb); clear H14; have H14 := H14'; clear H14'; have HB' := Aside0.mk (below_step HB.out hb); clear HB; have HB := HB'; clear HB'; clear hb )
                  go_upto_region 42 with ((with_reducible refine (HG3.out _ H8.out H14.out).mono ?_); rintro e W24 ⟨vb3, rfl, hb⟩; have H8' := Aside0.mk (Kd.C_below H8.out hb); clear H8; have H8 := H8'; clear H8'; have H9' := Aside0.mk (Kd.C_below H9.out hb); clear H9; have H9 := H9'; clear H9'; have H10' := Aside0.mk (Kd.C_below H10.out hb); clear H10; have H10 := H10'; clear H10'; have H11' := Aside0.mk (Kd.C_below H11.out hb); clear H11; have H11 := H11'; clear H11'; have H12' := Aside0.mk (Kd.C_below H12.out hb); clear H12; have H12 := H12'; clear H12'; have H13' := Aside0.mk (Kd.C_below H13.out hb); clear H13; have H13 := H13'; clear H13'; have H14' := Aside0.mk (Kd.C_below H14.out hb); clear H14; have H14 := H14'; clear H14'; have HB' := Aside0.mk (below_step HB.out hb); clear HB; have HB := HB'; clear HB'; clear hb )
                  go_wp2_with ((with_reducible refine (awake_calls _).mono ?_); rintro e W25 ⟨rfl, hb⟩; have H8' := Aside0.mk (Kd.C_below H8.out hb); clear H8; have H8 := H8'; clear H8'; have H9' := Aside0.mk (Kd.C_below H9.out hb); clear H9; have H9 := H9'; clear H9'; have H10' := Aside0.mk (Kd.C_below H10.out hb); clear H10; have H10 := H10'; clear H10'; have H11' := Aside0.mk (Kd.C_below H11.out hb); clear H11; have H11 := H11'; clear H11'; have H12' := Aside0.mk (Kd.C_below H12.out hb); clear H12; have H12 := H12'; clear H12'; have H13' := Aside0.mk (Kd.C_below H13.out hb); clear H13; have H13 := H13'; clear H13'; have H14' := Aside0.mk (Kd.C_below H14.out hb); clear H14; have H14 := H14'; clear H14'; have HB' := Aside0.mk (below_step HB.out hb); clear HB; have HB := HB'; clear HB'; clear hb )
                  go_ret
                  exact ⟨rfl, HB.out⟩
end Go.Proofs.Ythadaajgjloogaa.L
