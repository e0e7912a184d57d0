import Derived.Test.YthadaajgjloogaaQe
namespace Go.Proofs.Ythadaajgjloogaa.L
open Go.RowKit Go.Shelf Go.Proofs.YthadaajgjloogaaW.PrintWords Go.Proofs.YthadaajgjloogaaW.PrintLast Go.Proofs.YthadaajgjloogaaW.PrintMore
attribute [local go_sem] max2_int min2_int max_two min_two max_three min_three max_four min_four
attribute [local go_sem] Oper.semAt_some

/-! ### the reference's Distance (29), once more: it draws, and makes nothing -/
set_option maxHeartbeats 4000000 in
theorem refDistQ_calls {k : Nat} (hk3 : k ≤ 3) (A B : Option Addr) (ca cb : Nat) (a b : List Int) (w : World) (hr : Kd.C (Kd.int .i64) w A a.length a) (hq : Kd.C (Kd.int .i64) w B b.length b) (ha : Pos k a) (hb : Pos k b) :
    Calls Try.prog 29 #[.slice A a.length ca, .slice B b.length cb] w fun e w' => e = .returned (.int .i64 (distF a b)) ∧ Drawn0 w w' := by
  have HL : Aside0 (a.length = k ∧ b.length = k) := ⟨ha.len, hb.len⟩
  have HE : Aside0 (sumI (dl a b a.length) = distF a b) := ⟨rfl⟩
  have HA := Aside0.mk ha.fl
  have HB := Aside0.mk hb.fl
  have HR := Aside0.mk hr
  have HQ := Aside0.mk hq
  have hmx := Kd.C_max hr
  have hbl : a.length ≤ b.length := by rw [ha.len, hb.len]; exact Nat.le_refl _
  have hal : a.length ≤ 3 := by rw [ha.len]; exact hk3
  clear hr hq ha hb
  go_enter Try.func29, Try.ntmps29
  go_wp2
  go_loopw [5, 6] (fun v5 v6 wr => ∃ j : Nat, j ≤ a.length ∧ v6 = .int .i64 j ∧ v5 = .int .i64 (sumI (dl a b j)) ∧ 0 ≤ sumI (dl a b j) ∧ sumI (dl a b j) ≤ 30 * j ∧ Aside0 (Drawn0 w wr)) (fun _ v6 _ => a.length - (intOf v6).toNat)
  case atStart => exact ⟨0, Nat.zero_le _, rfl, rfl, by simp [dl, sumI], by simp [dl, sumI], ⟨Drawn0.refl _⟩⟩
  case round =>
    obtain ⟨j, hj, rfl, rfl, s0, s1, HD⟩ := hrel
    by_cases hlt : j < a.length
    · obtain ⟨ad, e0, h0⟩ := Kd.at_int (Kd.C_below HR.out HD.out.below) (j : Int) (by omega) (by omega)
      subst e0
      obtain ⟨bd, e1, h1⟩ := Kd.at_int (Kd.C_below HQ.out HD.out.below) (j : Int) (by omega) (by omega)
      subst e1
      rw [Int.toNat_natCast] at h0 h1
      have hjb : j < b.length := by omega
      have hab := ab_r30 (HA.out j (by omega)) (HB.out j (by omega))
      obtain ⟨p0, p1⟩ := HA.out j (by omega)
      obtain ⟨q0, q1⟩ := HB.out j (by omega)
      have HS : Aside0 (sumI (dl a b (j + 1)) = sumI (dl a b j) + ab (rd a j) (rd b j)) := ⟨by rw [dl_succ, sumI_append]; simp [sumI]⟩
      have hm1 : (if rd a j - rd b j < rd b j - rd a j then rd b j - rd a j else rd a j - rd b j) = ab (rd a j) (rd b j) := by unfold ab; split <;> split <;> omega
      have hw1 : IntKind.i64.wrap (sumI (dl a b j) + ab (rd a j) (rd b j)) = sumI (dl a b j) + ab (rd a j) (rd b j) := IntWalk.i64_in _ (by omega)
      have hm2 : IntKind.i64.wrap (rd a j - rd b j) = rd a j - rd b j := IntWalk.i64_in _ (by omega)
      have hm3 : IntKind.i64.wrap (rd b j - rd a j) = rd b j - rd a j := IntWalk.i64_in _ (by omega)
      go_upto_region 5 with (fail)
      go_quiet (fail)
      clear hm1 hw1 hm2 hm3 h0 h1
      go_wp2
      go_roundw
      case rel => exact ⟨j + 1, by omega, by go_num, by rw [HS.out], by rw [HS.out]; omega, by rw [HS.out]; omega, ⟨by obtain ⟨n, hn⟩ := HD.out; exact ⟨n + nq, by rw [hn, World.drewN_drewN]⟩⟩⟩
      case measure => simp [intOf]; omega
    · obtain rfl : j = a.length := by omega
      go_wp2
      go_ret
      exact ⟨by first | rfl | exact HE.out | rw [HE.out], HD.out⟩
end Go.Proofs.Ythadaajgjloogaa.L

namespace Go.Proofs.Ythadaajgjloogaa.L
open Go.RowKit Go.Shelf Go.Proofs.YthadaajgjloogaaW.PrintWords Go.Proofs.YthadaajgjloogaaW.PrintLast Go.Proofs.YthadaajgjloogaaW.PrintMore
open Go.Proofs.Ythadaajgjloogaa.PLiftsWorks
attribute [local go_sem] max2_int min2_int max_two min_two max_three min_three max_four min_four
attribute [local go_sem] Oper.semAt_some

/-! ### the reference's choice: the least value so far, and where -/
def selR (f : List Int → Int) (x : Int) (l : List (List Int)) : Nat → Int × Int
  | 0 => (-1, -1)
  | m + 1 => if x ∈ rL l m then (if (selR f x l m).2 < 0 ∨ f (rL l m) < (selR f x l m).1 then (f (rL l m), (m : Int)) else selR f x l m) else selR f x l m
theorem selR_spec (f : List Int → Int) (x : Int) (l : List (List Int)) (hf : ∀ p ∈ l, 0 ≤ f p) : ∀ m, m ≤ l.length →
    ((chF f x (l.take m)).2 = -1 ∧ selR f x l m = (-1, -1)) ∨ (0 ≤ (chF f x (l.take m)).2 ∧ (selR f x l m).1 = (chF f x (l.take m)).2 ∧ 0 ≤ (selR f x l m).2 ∧ (selR f x l m).2 < m ∧ rL l (selR f x l m).2.toNat = (chF f x (l.take m)).1)
  | 0, _ => by left; simp [chF, selR]
  | m + 1, h => by
    have ih := selR_spec f x l hf m (by omega)
    have hm : m < l.length := by omega
    have e : rL l m = l[m] := rL_get l m hm
    have h0 := hf _ (List.getElem_mem hm)
    rw [List.take_succ_eq_append_getElem hm, chF_snoc]
    unfold chStep selR
    rw [e]
    by_cases hx : x ∈ l[m]
    · rw [if_pos hx, if_pos hx]
      rcases ih with ⟨h1, h2⟩ | ⟨h1, h2, h3, h4, h5⟩
      · rw [if_pos (Or.inl (by omega)), if_pos (Or.inl (by rw [h2]; decide))]
        right
        exact ⟨h0, rfl, by simp, by simp; omega, by simp [e]⟩
      · by_cases hlt : f l[m] < (chF f x (l.take m)).2
        · rw [if_pos (Or.inr hlt), if_pos (Or.inr (by omega))]
          right
          exact ⟨h0, rfl, by simp, by simp; omega, by simp [e]⟩
        · rw [if_neg (by omega), if_neg (by omega)]
          right
          exact ⟨h1, h2, h3, by omega, h5⟩
    · rw [if_neg hx, if_neg hx]
      rcases ih with ⟨h1, h2⟩ | ⟨h1, h2, h3, h4, h5⟩
      · left; exact ⟨h1, h2⟩
      · right; exact ⟨h1, h2, h3, by omega, h5⟩
theorem selR_range (f : List Int → Int) (x : Int) (l : List (List Int)) (B : Int) (hB : 0 ≤ B) (hf : ∀ p ∈ l, 0 ≤ f p ∧ f p ≤ B) : ∀ m, m ≤ l.length → -1 ≤ (selR f x l m).1 ∧ (selR f x l m).1 ≤ B ∧ -1 ≤ (selR f x l m).2 ∧ (selR f x l m).2 < m
  | 0, _ => by simp [selR]; omega
  | m + 1, h => by
    have ih := selR_range f x l B hB hf m (by omega)
    have hm : m < l.length := by omega
    have e : rL l m = l[m] := rL_get l m hm
    have h0 := hf _ (List.getElem_mem hm)
    unfold selR
    rw [e]
    split
    · split
      · exact ⟨by show -1 ≤ f l[m]; omega, h0.2, by show (-1 : Int) ≤ (m : Int); omega, by show (m : Int) < ((m + 1 : Nat) : Int); omega⟩
      · exact ⟨ih.1, ih.2.1, ih.2.2.1, by omega⟩
    · exact ⟨ih.1, ih.2.1, ih.2.2.1, by omega⟩
/-- Behind all positions: where the choice lies. -/
theorem selR_all {k : Nat} (hk : 1 ≤ k) {f : List Int → Int} {x : Int} (hx : 0 ≤ x ∧ x ≤ 30) (hf : ∀ p ∈ allP k, 0 ≤ f p) : ∃ i : Nat, i < (allP k).length ∧ (selR f x (allP k) (allP k).length).2 = i ∧ rL (allP k) i = (chF f x (allP k)).1 := by
  have h := selR_spec f x (allP k) hf (allP k).length (Nat.le_refl _)
  rw [List.take_length] at h
  have hc := chF_found hk hx hf
  have h0 := hf _ hc.1
  rcases h with ⟨h1, _⟩ | ⟨_, _, h3, h4, h5⟩
  · have := hc.2.2.1; omega
  · exact ⟨(selR f x (allP k) (allP k).length).2.toNat, by omega, by omega, h5⟩
/-- A row of a table that is read, with its footprint. -/
theorem F_row {W : World} {ok : Nat → Prop} {A : Option Addr} {n : Nat} {l : List (List Int)} (h : Kd.F (Kd.slice 3 (Kd.int .i64)) W ok A n l) (i : Nat) (hi : i < n) :
    ∃ ad A0 c0, A = some ad ∧ W.cell? (ad.add i) = some (.slice A0 (rL l i).length c0) ∧ (rL l i).length ≤ c0 ∧ Kd.F (Kd.int .i64) W ok A0 (rL l i).length (rL l i) := by
  obtain ⟨ad, cs, hA, hcl, hFK, hcell, _⟩ := Kd.F_get h [] (i : Int) (by omega) (by omega)
  rw [Int.toNat_natCast] at hFK hcell
  have e : l.getD i [] = rL l i := by simp [rL, rd_L1]
  rw [e] at hFK
  obtain ⟨A0, c0, hcs, hc0, _⟩ := hFK W (fun _ _ _ => rfl)
  refine ⟨ad, A0, c0, hA, ?_, hc0, fun W' hW => ?_⟩
  · have := hcell 0 (.slice A0 (rL l i).length c0) (by rw [hcs]; rfl)
    simpa [Kd.slice] using this
  · obtain ⟨A1, c1, hcs1, _, hC⟩ := hFK W' hW
    rw [hcs] at hcs1
    simp only [List.cons.injEq, Value.slice.injEq, and_true, true_and] at hcs1
    rw [hcs1.1]
    exact hC
theorem F_next2 {W W1 : World} {v v1 : Value} {A : Option Addr} {n : Nat} {l : List (List Int)} (hF : Kd.F (Kd.slice 3 (Kd.int .i64)) W (fun k => some k ≠ v.ownBlock) A n l) (hg : W.grownBy W1 v.ownBlock) (hat : v1.ownBlock = v.ownBlock ∨ ∃ b, v1.ownBlock = some b ∧ W.heap.size ≤ b) : Kd.F (Kd.slice 3 (Kd.int .i64)) W1 (fun k => some k ≠ v1.ownBlock) A n l :=
  Kd.F_mono (Kd.F_after (ok := fun _ => True) (Kd.F_mono hF fun _ hk => ⟨trivial, hk⟩) hg hat) fun _ hk => hk.2
/-- The state of the reference's Foresee. -/
structure Fn (w W : World) (k : Nat) (f : List Int → Int) (Aa : Option Addr) (v6 v7 v8 : Value) (now : List Int) (rows : List (List Int)) : Prop where
  rn : Rn w W v7 v8 now rows
  all : Kd.F (Kd.slice 3 (Kd.int .i64)) W (fun k => some k ≠ v8.ownBlock) Aa (allP k).length (allP k)
  tab : ∃ tab At ct, v6 = .slice At tab.length ct ∧ tab.length ≤ ct ∧ Kd.F (Kd.int .i64) W (fun k => some k ≠ v8.ownBlock) At tab.length tab ∧ Tab k f tab (allP k).length
set_option maxRecDepth 100000 in
set_option maxHeartbeats 8000000 in
theorem refForesee_calls (A B : Option Addr) (ca cb : Nat) (s c : List Int) (w : World) (hh : hallB s c = true) (hr : Kd.C (Kd.int .i64) w A s.length s) (hca : s.length ≤ ca) (hq : Kd.C (Kd.int .i64) w B c.length c) :
    Calls Try.prog 33 #[.slice A s.length ca, .slice B c.length cb] w (Rowed w (forL s c)) := by
  have HH := Aside0.mk hh
  obtain ⟨⟨hpos, hk1, hk3⟩, h40, hcs⟩ := hallB_parts hh
  have HPO := Aside0.mk hpos
  have HCS := Aside0.mk hcs
  have HQ := Aside0.mk hq
  have HR := Aside0.mk hr
  have HCA := Aside0.mk hca
  have HWR := Aside0.mk (fun j hj => workAt_range hk1 hk3 hpos hcs j hj)
  have hmx := Kd.C_max hq
  clear hh hpos hcs hq hca hr
  go_enter Try.func33, Try.ntmps33
  go_upto_region 3 with (first
    | (go_at_call 19; refine (refAll_calls s.length hk3 _).mono ?_; rintro e V ⟨Aa, cca, rfl, hCa, hb⟩; have HAll := Aside0.mk hCa; have HBA := Aside0.mk hb; clear hb hCa)
    | (go_at_call 52; refine (refFirst_calls s.length s Aa A cca ca _ hk3 HPO.out HAll.out (Kd.C_below HR.out HBA.out) HCA.out).mono ?_; rintro e V2 ⟨vt, tab0, rfl, hRt, hTt, hb2⟩; have HRT := Aside0.mk hRt; have HTT := Aside0.mk hTt; have HB2 := Aside0.mk hb2; clear hRt hTt hb2))
  have HF1 : Aside0 (Fn w V2 s.length (workAt s c 0) Aa vt (.slice A s.length ca) (.slice none 0 0) s []) := ⟨⟨⟨Al.nil _ _, ⟨A, ca, rfl, HCA.out, F_of_C (Kd.C_below (Kd.C_below HR.out HBA.out) HB2.out) _ (fun _ _ => by simp [Value.ownBlock])⟩, below_step HBA.out HB2.out⟩, fun W' hW => (Kd.heap_slice 3 (Kd.heap_int .i64)).C (fun k hk => hW k (by simp [Value.ownBlock]) hk) (Kd.C_below HAll.out HB2.out), by
    obtain ⟨At, ct, e1, h1, h2⟩ := Kd.R_reads HRT.out
    exact ⟨tab0, At, ct, e1, h1, F_of_C h2 _ (fun _ _ => by simp [Value.ownBlock]), HTT.out⟩⟩⟩
  have hNm := Kd.C_max HAll.out
  clear HAll HBA HRT HTT HB2
  go_wp2
  go_loopw [6, 7, 8, 9, 10, 11, 12, 13] (fun v6 v7 v8 v9 _ _ _ _ wr => ∃ j : Nat, j ≤ c.length ∧ v9 = .int .i64 j ∧ Aside0 (Fn w wr s.length (workAt s c j) Aa v6 v7 v8 (stepS (fS s.length) (0, distF s) s c j).2.1 (stepS (fS s.length) (0, distF s) s c j).2.2.1)) (fun _ _ _ v9 _ _ _ _ _ => c.length - (intOf v9).toNat)
  case atStart => exact ⟨0, Nat.zero_le _, rfl, HF1⟩
  case round =>
    clear HF1
    obtain ⟨j, hj, rfl, HS⟩ := hrel
    by_cases hlt : j < c.length
    · obtain ⟨ad, rfl, hx⟩ := Kd.at_int (Kd.C_below HQ.out HS.out.rn.hb) (j : Int) (by omega) (by omega)
      rw [Int.toNat_natCast] at hx
      have HP := Aside0.mk (fS_ok HH.out j hj)
      have HX := Aside0.mk (HCS.out _ (rd_mem hlt))
      have HW := Aside0.mk (HWR.out j hj)
      have HE1 : Aside0 ((stepS (fS s.length) (0, distF s) s c (j + 1)).2.1 = forP s.length (workAt s c j) (stepS (fS s.length) (0, distF s) s c j).2.1 (rd c j)) := ⟨by simp only [stepS, fS]; rw [fS_state s c j]⟩
      have HE2 : Aside0 ((stepS (fS s.length) (0, distF s) s c (j + 1)).2.2.1 = (stepS (fS s.length) (0, distF s) s c j).2.2.1 ++ [forP s.length (workAt s c j) (stepS (fS s.length) (0, distF s) s c j).2.1 (rd c j)]) := ⟨by simp only [stepS, fS]; rw [fS_state s c j]⟩
      have HE3 : Aside0 (workAt s c (j + 1) = aftF s.length (workAt s c j) (rd c j)) := ⟨rfl⟩
      have HLn : Aside0 ((stepS (fS s.length) (0, distF s) s c j).2.2.1.length = j) := ⟨stepS_len (fS s.length) (0, distF s) s c j⟩
      obtain ⟨tab, At, ct, e6, hct, hFt, hTt⟩ := HS.out.tab
      obtain ⟨An, cn, e7, hcn, hFn⟩ := HS.out.rn.now
      have HCT := Aside0.mk hct
      have HFT := Aside0.mk hFt
      have HTT := Aside0.mk hTt
      have HCN := Aside0.mk hcn
      have HFN := Aside0.mk hFn
      subst e6
      subst e7
      clear hct hFt hTt hcn hFn
      generalize (stepS (fS s.length) (0, distF s) s c j).2.1 = now at *
      generalize (stepS (fS s.length) (0, distF s) s c j).2.2.1 = rows at *
      generalize workAt s c j = f at *
      have hj40 : (j : Int) ≤ 40 := by omega
      go_upto_region 9 with (go_at_call 53; refine (refNext_calls s.length f (90 + 30 * (j : Int)) tab (rd c j) Aa At _ ct _ hk1 hk3 (Kd.F_now HS.out.all) (Kd.F_now HFT.out) HTT.out HW.out (by omega) HX.out).mono ?_; rintro e W2 ⟨v2, tab2, rfl, hR2, hT2, hb2⟩; have HR2 := Aside0.mk hR2; have HT2 := Aside0.mk hT2; have HB2 := Aside0.mk hb2; clear hR2 hT2 hb2)
      have HW2s := HB2.out.size
      have HALL2 := Aside0.mk (Kd.F_below HS.out.all HB2.out)
      have HNOW2 := Aside0.mk (Kd.F_below HFN.out HB2.out)
      have HAL2 := Aside0.mk (HS.out.rn.al.below HB2.out)
      have HBW2 := Aside0.mk (below_step HS.out.rn.hb HB2.out)
      obtain ⟨At2, ct2, e8, hct2, hC2⟩ := Kd.R_reads HR2.out
      subst e8
      have HCT2 := Aside0.mk hct2
      have HTF2 : Aside0 (Kd.F (Kd.int .i64) W2 (fun k => some k ≠ u8.ownBlock) At2 tab2.length tab2) := ⟨Kd.F_mono (Kd.R_F HR2.out) (fun k hk e => by have := (HS.out.rn.al.lt k e.symm).2; omega)⟩
      have HTL := Aside0.mk HT2.out.len
      have HCO1 := Aside0.mk (fun p hp => codeF_range hk3 (allP_pos (k := s.length) (x := p) hp))
      have HG : Aside0 (∀ q ∈ allP s.length, 0 ≤ aftF s.length f (rd c j) q + distF now q ∧ aftF s.length f (rd c j) q + distF now q ≤ 10000) := ⟨fun q hq => by
        have h1 := aftF_range hk1 HW.out HX.out hq
        have h2 := distF_range (allP_pos HP.out) (allP_pos hq) hk3
        omega⟩
      have HFP : Aside0 (forP s.length f now (rd c j) = (chF (fun q => aftF s.length f (rd c j) q + distF now q) (rd c j) (allP s.length)).1) := ⟨rfl⟩
      have HHQ := Aside0.mk (Kd.C_below HQ.out HBW2.out)
      clear hct2 hC2 hx HR2 HS HFT HTT HCT HFN HB2
      go_wp2
      go_loopw [10, 11, 12, 13] (fun v10 v11 v12 _ U => ∃ m : Nat, m ≤ (allP s.length).length ∧ v12 = .int .i64 m ∧ v10 = .int .i64 (selR (fun q => aftF s.length f (rd c j) q + distF now q) (rd c j) (allP s.length) m).1 ∧ v11 = .int .i64 (selR (fun q => aftF s.length f (rd c j) q + distF now q) (rd c j) (allP s.length) m).2 ∧ Aside0 (Drawn0 W2 U)) (fun _ _ v12 _ _ => (allP s.length).length - (intOf v12).toNat)
      case atStart => exact ⟨0, Nat.zero_le _, rfl, rfl, rfl, ⟨Drawn0.refl _⟩⟩
      case round =>
        obtain ⟨m, hm, rfl, rfl, rfl, HU⟩ := hrel
        by_cases hmN : m < (allP s.length).length
        · obtain ⟨aa, A0, c0, eA, hcell, hc0, hF0⟩ := F_row (Kd.F_below HALL2.out HU.out.below) m hmN
          subst eA
          obtain ⟨_, e9, hx⟩ := Kd.at_int (Kd.C_below HHQ.out HU.out.below) (j : Int) (by omega) (by omega)
          cases e9
          rw [Int.toNat_natCast] at hx
          have HPA : Aside0 (rL (allP s.length) m ∈ allP s.length) := ⟨rL_allP (k := s.length) (i := m) hmN⟩
          have HSL : Aside0 (selR (fun q => aftF s.length f (rd c j) q + distF now q) (rd c j) (allP s.length) (m + 1) = if rd c j ∈ rL (allP s.length) m then (if (selR (fun q => aftF s.length f (rd c j) q + distF now q) (rd c j) (allP s.length) m).2 < 0 ∨ aftF s.length f (rd c j) (rL (allP s.length) m) + distF now (rL (allP s.length) m) < (selR (fun q => aftF s.length f (rd c j) q + distF now q) (rd c j) (allP s.length) m).1 then (aftF s.length f (rd c j) (rL (allP s.length) m) + distF now (rL (allP s.length) m), (m : Int)) else selR (fun q => aftF s.length f (rd c j) q + distF now q) (rd c j) (allP s.length) m) else selR (fun q => aftF s.length f (rd c j) q + distF now q) (rd c j) (allP s.length) m) := ⟨rfl⟩
          have hsr := selR_range (fun q => aftF s.length f (rd c j) q + distF now q) (rd c j) (allP s.length) 10000 (by omega) HG.out m hm
          generalize selR (fun q => aftF s.length f (rd c j) q + distF now q) (rd c j) (allP s.length) m = best at *
          generalize hsel1 : selR (fun q => aftF s.length f (rd c j) q + distF now q) (rd c j) (allP s.length) (m + 1) = best1 at *
          generalize rL (allP s.length) m = p at *
          have HC0 := Aside0.mk (Kd.F_now hF0)
          have HK0 := Aside0.mk hc0
          clear hF0 hc0
          by_cases hxp : rd c j ∈ p
          · have HHS : Aside0 (∀ V, Drawn0 wr V → Calls Try.prog 63 #[.slice A0 p.length c0, .int .i64 (rd c j)] V fun e w' => e = .returned (.bool true) ∧ Drawn0 V w') := ⟨fun V hV => by
              have := refHas_calls A0 c0 p (rd c j) V (Kd.C_below HC0.out hV.below) HK0.out (by rw [allP_len HPA.out]; omega)
              rw [decide_eq_true hxp] at this
              exact this⟩
            have HCO : Aside0 (∀ V, Drawn0 wr V → Calls Try.prog 20 #[.slice A0 p.length c0] V fun e w' => e = .returned (.int .i64 (codeF p)) ∧ Drawn0 V w') := ⟨fun V hV => codeRef_calls hk3 A0 c0 p V (Kd.C_below HC0.out hV.below) HK0.out (allP_pos HPA.out)⟩
            have HDI : Aside0 (∀ V, Drawn0 wr V → Calls Try.prog 29 #[.slice An now.length cn, .slice A0 p.length c0] V fun e w' => e = .returned (.int .i64 (distF now p)) ∧ Drawn0 V w') := ⟨fun V hV => refDistQ_calls hk3 An A0 cn c0 now p V (Kd.C_below (Kd.C_below (Kd.F_now HNOW2.out) HU.out.below) hV.below) (Kd.C_below HC0.out hV.below) (allP_pos HP.out) (allP_pos HPA.out)⟩
            have hg := HG.out p HPA.out
            obtain ⟨q0, q1⟩ := HCO1.out p HPA.out
            obtain ⟨at2, e10, hy⟩ := Kd.at_int (Kd.C_below (Kd.F_now HTF2.out) HU.out.below) (codeF p) q0 (by rw [HTL.out]; omega)
            subst e10
            rw [HT2.out.all HPA.out] at hy
            have q2 : codeF p < tab2.length := by rw [HTL.out]; omega
            have hd := distF_range (allP_pos HP.out) (allP_pos HPA.out) hk3
            have hwr : IntKind.i64.wrap (aftF s.length f (rd c j) p + distF now p) = aftF s.length f (rd c j) p + distF now p := IntWalk.i64_in _ (by omega)
            rw [if_pos hxp] at HSL
            go_upto_region 13 with (fail)
            go_quiet ((go_at_call 63; (with_reducible refine (HHS.out _ (by first | exact ⟨⟨_, rfl⟩⟩ | exact Drawn0.refl _ | exact Drawn0.step ⟨⟨_, rfl⟩⟩ _)).mono ?_); rintro e w' ⟨rfl, ⟨nd, rfl⟩⟩; (first | exact ⟨rfl, _, World.drewN_drewN _ _ _⟩ | exact ⟨rfl, _, Eq.trans (World.drewN_drewN _ _ _) (congrArg (World.drewN _) (Nat.add_assoc _ _ _))⟩)))
            go_upto_region 14 with (fail)
            go_quiet ((first | (go_at_call 20; (with_reducible refine (HCO.out _ (by first | exact ⟨⟨_, rfl⟩⟩ | exact Drawn0.refl _ | exact Drawn0.step ⟨⟨_, rfl⟩⟩ _ | exact Drawn0.step (Drawn0.step ⟨⟨_, rfl⟩⟩ _) _)).mono ?_); rintro e w' ⟨rfl, ⟨nd, rfl⟩⟩; (first | exact ⟨rfl, _, World.drewN_drewN _ _ _⟩ | exact ⟨rfl, _, Eq.trans (World.drewN_drewN _ _ _) (congrArg (World.drewN _) (Nat.add_assoc _ _ _))⟩)) | (go_at_call 29; (with_reducible refine (HDI.out _ (by first | exact ⟨⟨_, rfl⟩⟩ | exact Drawn0.refl _ | exact Drawn0.step ⟨⟨_, rfl⟩⟩ _ | exact Drawn0.step (Drawn0.step ⟨⟨_, rfl⟩⟩ _) _)).mono ?_); rintro e w' ⟨rfl, ⟨nd, rfl⟩⟩; (first | exact ⟨rfl, _, World.drewN_drewN _ _ _⟩ | exact ⟨rfl, _, Eq.trans (World.drewN_drewN _ _ _) (congrArg (World.drewN _) (Nat.add_assoc _ _ _))⟩))))
            clear hcell hx hy hwr q0 q1 q2
            generalize aftF s.length f (rd c j) p + distF now p = V at *
            by_cases hn : best.2 < 0
            · have hn' := decide_eq_true hn
              have HNE : Aside0 (best1 = (V, (m : Int))) := ⟨by rw [HSL.out, if_pos (Or.inl hn)]⟩
              clear hn
              go_wp2
              go_roundw
              case rel => exact ⟨m + 1, by omega, by go_num, by rw [hsel1, HNE.out], by rw [hsel1, HNE.out], ⟨Drawn0.step HU.out _⟩⟩
              case measure => simp [intOf]; omega
            · have hn' := decide_eq_false hn
              by_cases hl : V < best.1
              · have hl' := decide_eq_true hl
                have HNE : Aside0 (best1 = (V, (m : Int))) := ⟨by rw [HSL.out, if_pos (Or.inr hl)]⟩
                clear hn hl
                go_wp2
                go_roundw
                case rel => exact ⟨m + 1, by omega, by go_num, by rw [hsel1, HNE.out], by rw [hsel1, HNE.out], ⟨Drawn0.step HU.out _⟩⟩
                case measure => simp [intOf]; omega
              · have hl' := decide_eq_false hl
                have HNE : Aside0 (best1 = best) := ⟨by rw [HSL.out, if_neg (by omega)]⟩
                clear hn hl
                go_wp2
                go_roundw
                case rel => exact ⟨m + 1, by omega, by go_num, by rw [hsel1, HNE.out], by rw [hsel1, HNE.out], ⟨Drawn0.step HU.out _⟩⟩
                case measure => simp [intOf]; omega
          · have HHS : Aside0 (∀ V, Drawn0 wr V → Calls Try.prog 63 #[.slice A0 p.length c0, .int .i64 (rd c j)] V fun e w' => e = .returned (.bool false) ∧ Drawn0 V w') := ⟨fun V hV => by
              have := refHas_calls A0 c0 p (rd c j) V (Kd.C_below HC0.out hV.below) HK0.out (by rw [allP_len HPA.out]; omega)
              rw [decide_eq_false hxp] at this
              exact this⟩
            rw [if_neg hxp] at HSL
            clear hxp
            go_upto_region 13 with (fail)
            go_quiet ((go_at_call 63; (with_reducible refine (HHS.out _ (by first | exact ⟨⟨_, rfl⟩⟩ | exact Drawn0.refl _ | exact Drawn0.step ⟨⟨_, rfl⟩⟩ _ | exact Drawn0.step (Drawn0.step ⟨⟨_, rfl⟩⟩ _) _)).mono ?_); rintro e w' ⟨rfl, ⟨nd, rfl⟩⟩; (first | exact ⟨rfl, _, World.drewN_drewN _ _ _⟩ | exact ⟨rfl, _, Eq.trans (World.drewN_drewN _ _ _) (congrArg (World.drewN _) (Nat.add_assoc _ _ _))⟩)))
            clear hcell hx
            go_wp2
            go_roundw
            case rel => exact ⟨m + 1, by omega, by go_num, by rw [hsel1, HSL.out], by rw [hsel1, HSL.out], ⟨Drawn0.step HU.out _⟩⟩
            case measure => simp [intOf]; omega
        · obtain rfl : m = (allP s.length).length := by omega
          have hsa := selR_all hk1 HX.out (f := fun q => aftF s.length f (rd c j) q + distF now q) (fun q hq => (HG.out q hq).1)
          rw [← HFP.out] at hsa
          obtain ⟨i, hi, hsi, hri⟩ := hsa
          rw [hsi]
          obtain ⟨aa, A0, c0, eA, hcell, hc0, hF0⟩ := F_row (Kd.F_below HALL2.out HU.out.below) i hi
          subst eA
          rw [hri] at hcell hc0 hF0
          have HAL := Aside0.mk (HAL2.out.below HU.out.below)
          have HF3 := Aside0.mk hF0
          have HC0 := Aside0.mk hc0
          have HALL3 := Aside0.mk (Kd.F_below HALL2.out HU.out.below)
          have HTF3 := Aside0.mk (Kd.F_below HTF2.out HU.out.below)
          have HBW3 := Aside0.mk (below_step HBW2.out HU.out.below)
          obtain ⟨hs, hR, hl2, hl3⟩ := HAL.out.ex
          have HRh := Aside0.mk hR
          have HL2 := Aside0.mk hl2
          have HL3 := Aside0.mk hl3
          have hsz : (hs.length + 1) * 24 ≤ 140737488355328 := by rw [HL2.out, HLn.out]; omega
          have hwz := HBW3.out.size
          clear hR hl2 hl3 hsi hri hF0 hc0 HALL2 HTF2 HAL2 HBW2 HNOW2
          generalize forP s.length f now (rd c j) = q at *
          go_wp2_with ((with_reducible refine gate_builtin (b := .append) (xs := #[.tmp 78, .tmp 80]) rfl ?_); at_builtin; refine Kd.R_append hdK (w0 := wr) (W := wr) w.heap.size rfl (.tmp 78) (.tmp 80) 30 22 (.slice none 0 0) 24 rfl Try.underlying30 info22 rfl (by decide) (by omega) u8 hs (A0, q.length, c0) [.slice A0 q.length c0] (fun x => w.heap.size ≤ x) (fun _ => False) rfl rfl rfl (fun _ h => h.elim) (fun _ h => Nat.le_trans hwz h) HRh.out (Below.refl _ _) hwz hsz ?_; intro v1 w1 hR1 hB1 hg1 hat1; have HRN : Aside0 (Fn w w1 s.length (aftF s.length f (rd c j)) (some aa) (.slice At2 tab2.length ct2) (.slice A0 q.length c0) v1 q (rows ++ [q])) := ⟨⟨⟨Al.snoc HL2.out HL3.out hR1 HF3.out HC0.out hg1 hat1, ⟨A0, c0, rfl, HC0.out, F_next HF3.out hg1 hat1⟩, HBW3.out.trans hB1⟩, F_next2 HALL3.out hg1 hat1, ⟨tab2, At2, ct2, rfl, HCT2.out, F_next HTF3.out hg1 hat1, HT2.out⟩⟩⟩; clear hR1 hB1 hg1 hat1)
          go_roundw
          case rel => exact ⟨j + 1, by omega, by go_num, by rw [HE1.out, HE2.out, HE3.out]; exact HRN⟩
          case measure => simp [intOf]; omega
    · obtain rfl : j = c.length := by omega
      go_wp2
      go_ret
      exact rowed_of_al HS.out.rn.al HS.out.rn.hb
end Go.Proofs.Ythadaajgjloogaa.L

