import Derived.Test.YthadaajgjloogaaQh
namespace Go.Proofs.Ythadaajgjloogaa.L
open Go.RowKit Go.Shelf Go.Proofs.YthadaajgjloogaaW.PrintWords Go.Proofs.YthadaajgjloogaaW.PrintLast Go.Proofs.YthadaajgjloogaaW.PrintMore
attribute [local go_sem] max2_int min2_int max_two min_two max_three min_three max_four min_four
attribute [local go_sem] Oper.semAt_some

/-! ### LiftsOwn (9) -/
theorem row_lenO {s c : List Int} {l : List (List Int)} (hh : hallB s c = true) (hl : schedB s.length c l = true) : ∀ p ∈ l, p.length ≤ 3 := by
  obtain ⟨⟨_, _, hk3⟩, _, _⟩ := hallB_parts hh
  obtain ⟨hlen, hr⟩ := sched_rows hl
  intro p hp
  obtain ⟨i, hi, rfl⟩ := List.mem_iff_getElem.1 hp
  have h := allP_len (row_allP (hr i (by omega))).1
  rw [rL_get l i hi] at h
  omega
theorem intsRefl_calls (A B : Option Addr) (ca cb : Nat) (l : List Int) (w : World) (hl : l.length ≤ 1000) (h0 : Kd.C (Kd.int .i64) w A l.length l) (ha : l.length ≤ ca) (h1 : Kd.C (Kd.int .i64) w B l.length l) (hb : l.length ≤ cb) :
    Calls Try.prog 36 #[.slice A l.length ca, .slice B l.length cb] w fun e w' => e = .returned (.bool true) ∧ Below w.heap.size w w' :=
  (PLiftsServes.turndownlaw07_ints.calls (l.length + 1) A ca l B cb l true w h0 ha h1 hb (by rw [PLiftsServes.turndownlaw07_ints.f, if_pos rfl]; exact ints_refl l hl l.length 0 _ (by omega) (by omega))).mono fun _ _ h => ⟨h.1, h.2.below⟩
theorem hd_empty (W : World) (B : Nat) (h : B ≤ W.heap.size) : Kd.R hdK 22 (W.alloc (.cells #[] 22)) B (fun x => B ≤ x) (.slice (some ⟨W.heap.size, 0, none⟩) 0 0) [] :=
  ⟨fun k hk => by
    have : W.heap.size = k := by simpa [Value.ownBlock] using hk
    omega, [], ⟨by simp, Or.inr ⟨W.heap.size, 0, #[], rfl, h, aln _ _, Nat.le_refl _, by unfold maxLen; omega, by simp, by simp⟩⟩, Reps.none _ _⟩
theorem below_of_row2 {w U X : World} {row : Option Nat} (h1 : Below w.heap.size w U) (h2 : U.grownBy X row) (hb : ∀ b, row = some b → w.heap.size ≤ b) : Below w.heap.size w X :=
  ⟨h2.os.trans h1.os, h2.tape.trans h1.tape, h2.output.trans h1.output, Nat.le_trans h1.size h2.size, fun i hi => (h2.block i (Nat.lt_of_lt_of_le hi h1.size) (fun e => by have := hb i e.symm; omega)).trans (h1.block i hi)⟩
theorem own_new {v v1 : Value} {W : World} {n : Nat} (h : ∀ b, v.ownBlock = some b → n ≤ b) (hn : n ≤ W.heap.size) (hat : v1.ownBlock = v.ownBlock ∨ ∃ b, v1.ownBlock = some b ∧ W.heap.size ≤ b) : ∀ b, v1.ownBlock = some b → n ≤ b := by
  intro b hb
  rcases hat with e | ⟨c, e, hc⟩
  · exact h b (by rw [← e]; exact hb)
  · rw [e] at hb; injection hb with hb; omega
structure Ow (Wb W : World) (v : Value) (HS : List Hdr) : Prop where
  r : Kd.R hdK 22 W Wb.heap.size (fun x => Wb.heap.size ≤ x) v HS
  wr : ∀ h ∈ HS, Wr W Wb.heap.size h
  hb : Below Wb.heap.size Wb W
theorem Ow.set {Wb W : World} {v : Value} {HS : List Hdr} (h : Ow Wb W v HS) {g : Nat} {cells : Array Value} (hg : W.heap[g]? = some (.cells cells 3 (0, 0))) (hB : Wb.heap.size ≤ g) (j : Nat) (u : Value) : Ow Wb (W.setCell ⟨g, j, none⟩ u) v HS :=
  ⟨Kd.R_set h.r hg (fun q hq => by have h22 : q = 22 := (by simpa [hdK, Kd.scalar] using hq); rw [h22]; decide) j u, fun x hx => (h.wr x hx).set hg j u, h.hb.setCell hB u⟩
theorem wr_mem {W : World} {B n : Nat} {hs : List Hdr} (hl : hs.length = n) (h : ∀ i, i < n → Wr W B (hs.getD i (none, 0, 0))) : ∀ x ∈ hs, Wr W B x := by
  intro x hx
  obtain ⟨i, hi, rfl⟩ := List.mem_iff_getElem.1 hx
  have := h i (by omega)
  simpa [List.getD, hi] using this
theorem info22' : (Try.prog.info? 22).map (fun i => (i.zero, i.size, i.bytes)) = some (some (.slice none 0 0), 1, 24) := info22
set_option maxRecDepth 100000 in
set_option maxHeartbeats 8000000 in
theorem ownLaw (A C : Option Addr) (ca cc : Nat) (l0 l1 : List Int) (w : World) (hr : Kd.C (Kd.int .i64) w A l0.length l0) (hca : l0.length ≤ ca) (hq : Kd.C (Kd.int .i64) w C l1.length l1) (hcc : l1.length ≤ cc) :
    Calls Try.prog 9 #[.slice A l0.length ca, .slice C l1.length cc] w fun e w' => e = .returned (.bool true) ∧ Below w.heap.size w w' := by
  have HR := Aside0.mk hr
  have HQ := Aside0.mk hq
  have HCA := Aside0.mk hca
  have HCC := Aside0.mk hcc
  have HB := Aside0.mk (Below.refl w.heap.size w)
  have HK := Aside0.mk (liftedF_range l0)
  have hmx := Kd.C_max hr
  clear hr hq hca hcc
  go_enter Try.func9, Try.ntmps9
  go_upto_region 2 with ((with_reducible refine (lifted_calls A ca l0 _ HR.out HCA.out).mono ?_); rintro e W1 ⟨rfl, hb⟩; have HR' := Aside0.mk (Kd.C_below HR.out hb); clear HR; have HR := HR'; clear HR'; have HQ' := Aside0.mk (Kd.C_below HQ.out hb); clear HQ; have HQ := HQ'; clear HQ'; have HB' := Aside0.mk (below_step HB.out hb); clear HB; have HB := HB'; clear HB'; clear hb )
  have hk1 := HK.out.1
  have hk3 := HK.out.2
  generalize liftedF l0 = k at *
  go_upto_region 3 with (first
    | ((with_reducible refine (tame_calls A ca l0 k hk3 _ HR.out HCA.out).mono ?_); rintro e W2 ⟨A2, c2, rfl, hc2, hr2, hb⟩; have HR' := Aside0.mk (Kd.C_below HR.out hb); clear HR; have HR := HR'; clear HR'; have HQ' := Aside0.mk (Kd.C_below HQ.out hb); clear HQ; have HQ := HQ'; clear HQ'; have HB' := Aside0.mk (below_step HB.out hb); clear HB; have HB := HB'; clear HB'; have HC2 := Aside0.mk (Kd.R_reads' hr2).2.2; have _HcA := Aside0.mk hc2; clear hb hr2 hc2)
    | ((with_reducible refine (calls25_calls C cc l1 10 10 rfl (by omega) _ HQ.out HCC.out).mono ?_); rintro e W3 ⟨B2, d2, rfl, hd2, hr2, hb⟩; have HR' := Aside0.mk (Kd.C_below HR.out hb); clear HR; have HR := HR'; clear HR'; have HQ' := Aside0.mk (Kd.C_below HQ.out hb); clear HQ; have HQ := HQ'; clear HQ'; have HC2' := Aside0.mk (Kd.C_below HC2.out hb); clear HC2; have HC2 := HC2'; clear HC2'; have HB' := Aside0.mk (below_step HB.out hb); clear HB; have HB := HB'; clear HB'; have HD2 := Aside0.mk (Kd.R_reads' hr2).2.2; have _HcB := Aside0.mk hd2; clear hb hr2 hd2))
  have HH := Aside0.mk (hall_tame l0 l1 hk1 hk3 (m := 10) (by omega))
  have HP := Aside0.mk (tameF_allP l0 hk3)
  have HCL := Aside0.mk (callsF_len l1 10)
  generalize tameF l0 k = s at *
  generalize callsF l1 10 = c at *
  obtain rfl : s.length = k := allP_len HP.out
  clear HR HQ
  have HT1 : Aside0 (s.take 41 = s) := ⟨List.take_of_length_le (by omega)⟩
  have HT2 : Aside0 (c.take 41 = c) := ⟨List.take_of_length_le (by have := HCL.out; omega)⟩
  have HL1 : Aside0 (∀ V, Kd.C (Kd.int .i64) V A2 s.length s → Calls Try.prog 13 #[.slice A2 s.length c2] V (Made V s)) := ⟨fun V h => by have := list_made A2 c2 s V h _HcA.out; rw [HT1.out] at this; exact this⟩
  have HL2 : Aside0 (∀ V, Kd.C (Kd.int .i64) V B2 c.length c → Calls Try.prog 13 #[.slice B2 c.length d2] V (Made V c)) := ⟨fun V h => by have := list_made B2 d2 c V h _HcB.out; rw [HT2.out] at this; exact this⟩
  go_upto_region 4 with (first
    | ((with_reducible refine (HL1.out _ HC2.out).mono ?_); rintro e W4 ⟨A3, c3, rfl, hc3, hr3, hb⟩; have HC2' := Aside0.mk (Kd.C_below HC2.out hb); clear HC2; have HC2 := HC2'; clear HC2'; have HD2' := Aside0.mk (Kd.C_below HD2.out hb); clear HD2; have HD2 := HD2'; clear HD2'; have HB' := Aside0.mk (below_step HB.out hb); clear HB; have HB := HB'; clear HB'; have HC3 := Aside0.mk (Kd.R_reads' hr3).2.2; have _HcC := Aside0.mk hc3; clear hb hr3 hc3)
    | ((with_reducible refine (HL2.out _ HD2.out).mono ?_); rintro e W5 ⟨B3, d3, rfl, hd3, hr3, hb⟩; have HC2' := Aside0.mk (Kd.C_below HC2.out hb); clear HC2; have HC2 := HC2'; clear HC2'; have HD2' := Aside0.mk (Kd.C_below HD2.out hb); clear HD2; have HD2 := HD2'; clear HD2'; have HC3' := Aside0.mk (Kd.C_below HC3.out hb); clear HC3; have HC3 := HC3'; clear HC3'; have HB' := Aside0.mk (below_step HB.out hb); clear HB; have HB := HB'; clear HB'; have HD3 := Aside0.mk (Kd.R_reads' hr3).2.2; have _HcD := Aside0.mk hd3; clear hb hr3 hd3))
  obtain ⟨Wb, rfl⟩ : ∃ Wb, Wb = W5 := ⟨W5, rfl⟩
  have HBw := HB
  clear HB HT1 HT2 HL1 HL2
  have HB := Aside0.mk (Below.refl Wb.heap.size Wb)
  have HCb := HC2
  have HDb := HD2
  have HC3b := HC3
  have HD3b := HD3
  have HRl1 := Aside0.mk (row_lenO HH.out (careful_sched HH.out))
  have HRl2 := Aside0.mk (row_lenO HH.out (best_sched HH.out))
  have HRl3 := Aside0.mk (row_lenO HH.out (foresee_sched HH.out))
  have HXL : Aside0 ((runL cS s c).length = c.length) := ⟨run_len cS s c⟩
  have HYL : Aside0 ((bestL s c).length = c.length) := ⟨bestL_len s c⟩
  have HZL : Aside0 ((forL s c).length = c.length) := ⟨for_len s c⟩
  have HBs1 : Aside0 (Wb.heap.size ≤ Wb.heap.size) := ⟨Nat.le_refl _⟩
  go_upto_region 5 with ((with_reducible refine (Careful_yes A2 B2 c2 d2 s c _ HC2.out HD2.out HH.out).mono ?_); rintro e W6 ⟨v1, rfl, hr1, hb⟩; have HC2' := Aside0.mk (Kd.C_below HC2.out hb); clear HC2; have HC2 := HC2'; clear HC2'; have HD2' := Aside0.mk (Kd.C_below HD2.out hb); clear HD2; have HD2 := HD2'; clear HD2'; have HC3' := Aside0.mk (Kd.C_below HC3.out hb); clear HC3; have HC3 := HC3'; clear HC3'; have HD3' := Aside0.mk (Kd.C_below HD3.out hb); clear HD3; have HD3 := HD3'; clear HD3'; have HB' := Aside0.mk (below_step HB.out hb); clear HB; have HB := HB'; clear HB'; have HRw1 := Aside0.mk hr1; clear hb hr1)
  obtain ⟨E1, e1, hs1, ev1, hl1, hh1, hw1⟩ := heads_of HRw1.out HRl1.out
  subst ev1
  rw [HXL.out] at hl1 hh1 hw1 ⊢
  have HHd1 := Aside0.mk hh1
  have HHl1 := Aside0.mk hl1
  have HWr1 := Aside0.mk (fun i hi => (hw1 i hi).lower HBs1.out)
  clear hl1 hh1 hw1 HRw1
  have HBs2 := Aside0.mk HB.out.size
  go_upto_region 6 with ((with_reducible refine (Best_yes A2 B2 c2 d2 s c _ HC2.out HD2.out HH.out).mono ?_); rintro e W7 ⟨v2, rfl, hr2, hb⟩; have HC2' := Aside0.mk (Kd.C_below HC2.out hb); clear HC2; have HC2 := HC2'; clear HC2'; have HD2' := Aside0.mk (Kd.C_below HD2.out hb); clear HD2; have HD2 := HD2'; clear HD2'; have HC3' := Aside0.mk (Kd.C_below HC3.out hb); clear HC3; have HC3 := HC3'; clear HC3'; have HD3' := Aside0.mk (Kd.C_below HD3.out hb); clear HD3; have HD3 := HD3'; clear HD3'; have HHd1' := Aside0.mk (Kd.C_below HHd1.out hb); clear HHd1; have HHd1 := HHd1'; clear HHd1'; have HWr1' := Aside0.mk (fun i hi => (HWr1.out i hi).below hb); clear HWr1; have HWr1 := HWr1'; clear HWr1'; have HB' := Aside0.mk (below_step HB.out hb); clear HB; have HB := HB'; clear HB'; have HRw2 := Aside0.mk hr2; clear hb hr2)
  obtain ⟨E2, e2, hs2, ev2, hl2, hh2, hw2⟩ := heads_of HRw2.out HRl2.out
  subst ev2
  rw [HYL.out] at hl2 hh2 hw2 ⊢
  have HHd2 := Aside0.mk hh2
  have HHl2 := Aside0.mk hl2
  have HWr2 := Aside0.mk (fun i hi => (hw2 i hi).lower HBs2.out)
  clear hl2 hh2 hw2 HRw2
  have HBs3 := Aside0.mk HB.out.size
  go_upto_region 7 with ((with_reducible refine (Foresee_yes A2 B2 c2 d2 s c _ HC2.out HD2.out HH.out).mono ?_); rintro e W8 ⟨v3, rfl, hr3, hb⟩; have HC2' := Aside0.mk (Kd.C_below HC2.out hb); clear HC2; have HC2 := HC2'; clear HC2'; have HD2' := Aside0.mk (Kd.C_below HD2.out hb); clear HD2; have HD2 := HD2'; clear HD2'; have HC3' := Aside0.mk (Kd.C_below HC3.out hb); clear HC3; have HC3 := HC3'; clear HC3'; have HD3' := Aside0.mk (Kd.C_below HD3.out hb); clear HD3; have HD3 := HD3'; clear HD3'; have HHd1' := Aside0.mk (Kd.C_below HHd1.out hb); clear HHd1; have HHd1 := HHd1'; clear HHd1'; have HHd2' := Aside0.mk (Kd.C_below HHd2.out hb); clear HHd2; have HHd2 := HHd2'; clear HHd2'; have HWr1' := Aside0.mk (fun i hi => (HWr1.out i hi).below hb); clear HWr1; have HWr1 := HWr1'; clear HWr1'; have HWr2' := Aside0.mk (fun i hi => (HWr2.out i hi).below hb); clear HWr2; have HWr2 := HWr2'; clear HWr2'; have HB' := Aside0.mk (below_step HB.out hb); clear HB; have HB := HB'; clear HB'; have HRw3 := Aside0.mk hr3; clear hb hr3)
  obtain ⟨E3, e3, hs3, ev3, hl3, hh3, hw3⟩ := heads_of HRw3.out HRl3.out
  subst ev3
  rw [HZL.out] at hl3 hh3 hw3 ⊢
  have HHd3 := Aside0.mk hh3
  have HHl3 := Aside0.mk hl3
  have HWr3 := Aside0.mk (fun i hi => (hw3 i hi).lower HBs3.out)
  clear hl3 hh3 hw3 HRw3
  clear HBs1 HBs2 HBs3
  have hcl := HCL.out
  obtain ⟨Wv, rfl⟩ : ∃ Wv, Wv = W8 := ⟨W8, rfl⟩
  have hsz1 := HB.out.size
  have HO0 := Aside0.mk (hd_empty Wv Wb.heap.size hsz1)
  have HN0 : Aside0 (∀ b, (Value.slice (some ⟨Wv.heap.size, 0, none⟩) 0 0).ownBlock = some b → Wv.heap.size ≤ b) := ⟨fun b e => Nat.le_of_eq (by simpa [Value.ownBlock] using e)⟩
  have HV0 : Aside0 (Below Wv.heap.size Wv (Wv.alloc (.cells #[] 22))) := ⟨below_alloc (Below.refl _ _) _⟩
  have hsa : Wv.heap.size ≤ (Wv.alloc (.cells #[] 22)).heap.size := HV0.out.size
  go_upto_region 8 with (first
    | ((with_reducible refine gate_builtin (b := .append) (xs := #[.tmp 57, .tmp 58]) rfl ?_); at_builtin; refine Kd.R_append_row (fun h : Hdr => Value.slice h.1 h.2.1 h.2.2) (none, 0, 0) (h1 := fun _ => rfl) (w0 := Wv.alloc (.cells #[] 22)) Wb.heap.size rfl (.tmp 57) (.tmp 58) 30 22 (.slice none 0 0) 24 rfl Try.underlying30 info22 rfl (by omega) (.slice (some ⟨Wv.heap.size, 0, none⟩) 0 0) ([] : List Hdr) hs1 E1 c.length e1 (fun x => Wb.heap.size ≤ x) rfl rfl (fun _ h => Nat.le_trans (Nat.le_trans hsz1 HV0.out.size) h) HO0.out (Kd.C_below HHd1.out HV0.out) (Below.refl _ _) (Nat.le_trans hsz1 HV0.out.size) (by have := HHl1.out; have := HHl2.out; have := HHl3.out; simp; omega) ?_; intro v1 x1 hR hBx hg hat; have HO1 := Aside0.mk hR; have HN1 := Aside0.mk (own_new HN0.out HV0.out.size hat); have HV1 := Aside0.mk (below_of_row2 HV0.out hg HN0.out); clear hR hBx hg hat)
    | ((with_reducible refine gate_builtin (b := .append) (xs := #[.tmp 59, .tmp 60]) rfl ?_); at_builtin; refine Kd.R_append_row (fun h : Hdr => Value.slice h.1 h.2.1 h.2.2) (none, 0, 0) (h1 := fun _ => rfl) (w0 := x1) Wb.heap.size rfl (.tmp 59) (.tmp 60) 30 22 (.slice none 0 0) 24 rfl Try.underlying30 info22 rfl (by omega) (v1) ([] ++ hs1) hs2 E2 c.length e2 (fun x => Wb.heap.size ≤ x) rfl rfl (fun _ h => Nat.le_trans (Nat.le_trans hsz1 HV1.out.size) h) HO1.out (Kd.C_below HHd2.out HV1.out) (Below.refl _ _) (Nat.le_trans hsz1 HV1.out.size) (by have := HHl1.out; have := HHl2.out; have := HHl3.out; simp; omega) ?_; intro v2 x2 hR hBx hg hat; have HO2 := Aside0.mk hR; have HN2 := Aside0.mk (own_new HN1.out HV1.out.size hat); have HV2 := Aside0.mk (below_of_row2 HV1.out hg HN1.out); clear hR hBx hg hat)
    | ((with_reducible refine gate_builtin (b := .append) (xs := #[.tmp 61, .tmp 62]) rfl ?_); at_builtin; refine Kd.R_append_row (fun h : Hdr => Value.slice h.1 h.2.1 h.2.2) (none, 0, 0) (h1 := fun _ => rfl) (w0 := x2) Wb.heap.size rfl (.tmp 61) (.tmp 62) 30 22 (.slice none 0 0) 24 rfl Try.underlying30 info22 rfl (by omega) (v2) ([] ++ hs1 ++ hs2) hs3 E3 c.length e3 (fun x => Wb.heap.size ≤ x) rfl rfl (fun _ h => Nat.le_trans (Nat.le_trans hsz1 HV2.out.size) h) HO2.out (Kd.C_below HHd3.out HV2.out) (Below.refl _ _) (Nat.le_trans hsz1 HV2.out.size) (by have := HHl1.out; have := HHl2.out; have := HHl3.out; simp; omega) ?_; intro v3 x3 hR hBx hg hat; have HO3 := Aside0.mk hR; have HN3 := Aside0.mk (own_new HN2.out HV2.out.size hat); have HV3 := Aside0.mk (below_of_row2 HV2.out hg HN2.out); clear hR hBx hg hat))
  obtain ⟨HS, eHS⟩ : ∃ HS, [] ++ hs1 ++ hs2 ++ hs3 = HS := ⟨_, rfl⟩
  have HSn : Aside0 (HS.length ≤ 30) := ⟨by have h1 := HHl1.out; have h2 := HHl2.out; have h3 := HHl3.out; rw [← eHS]; simp; omega⟩
  have HOw : Aside0 (Ow Wb x3 v3 HS) := ⟨⟨by rw [← eHS]; exact HO3.out, by
    rw [← eHS]
    intro x hx
    simp only [List.nil_append, List.mem_append] at hx
    rcases hx with (hx | hx) | hx
    · exact (wr_mem HHl1.out HWr1.out x hx).below HV3.out
    · exact (wr_mem HHl2.out HWr2.out x hx).below HV3.out
    · exact (wr_mem HHl3.out HWr3.out x hx).below HV3.out, below_step HB.out HV3.out⟩⟩
  clear HO0 HO1 HO2 HO3 HN0 HN1 HN2 HN3 HV0 HV1 HV2 HV3 eHS HWr1 HWr2 HWr3 HHd1 HHd2 HHd3 HC2 HD2 HC3 HD3 hsa
  obtain ⟨Ag, cg, eg⟩ := Kd.R_slice HOw.out.r
  subst eg
  have hsn := HSn.out
  go_wp2
  go_loopw [20, 21] (fun v20 _ wr => ∃ i : Nat, i ≤ HS.length ∧ v20 = .int .i64 i ∧ Aside0 (Ow Wb wr (.slice Ag HS.length cg) HS)) (fun v20 _ _ => HS.length - (intOf v20).toNat)
  case atStart => exact ⟨0, Nat.zero_le _, rfl, HOw⟩
  case round =>
    clear HOw
    obtain ⟨i, hi, rfl, HU⟩ := hrel
    by_cases hlt : i < HS.length
    · obtain ⟨g, cap, eg, _, _, _⟩ := Kd.R_form HU.out.r (by omega)
      injection eg with e1 _ e2
      subst e1
      subst e2
      have hcell := (Kd.R_celln (none, 0, 0) HU.out.r (i : Int) (by omega) (by omega)).1
      have hmem : rdOf (none, 0, 0) HS (i : Int) ∈ HS := by simp [rdOf, hlt]
      obtain ⟨⟨ha, hn, hc⟩, eh⟩ : ∃ x : Hdr, rdOf (none, 0, 0) HS (i : Int) = x := ⟨_, rfl⟩
      have HE := Aside0.mk eh
      rw [Int.toNat_natCast, eh] at hcell
      rw [eh] at hmem
      have HM := Aside0.mk hmem
      clear eh hmem
      have hcell : wr.cell? ⟨g, i, none⟩ = some (.slice ha hn hc) := hcell
      go_wp2
      clear hcell
      obtain ⟨Wo, rfl⟩ : ∃ Wo, Wo = wr := ⟨wr, rfl⟩
      go_loopw [21] (fun v21 U => ∃ j : Nat, j ≤ hn ∧ v21 = .int .i64 j ∧ Aside0 (Ow Wb U (.slice (some ⟨g, 0, none⟩) HS.length cg) HS)) (fun v21 _ => hn - (intOf v21).toNat)
      case atStart => exact ⟨0, Nat.zero_le _, rfl, HU⟩
      case round =>
        clear HU
        obtain ⟨j, hj, rfl, HU⟩ := hrel
        have hcell := (Kd.R_celln (none, 0, 0) HU.out.r (i : Int) (by omega) (by omega)).1
        rw [Int.toNat_natCast, HE.out] at hcell
        have hcell : wr.cell? ⟨g, i, none⟩ = some (.slice ha hn hc) := hcell
        by_cases hjn : j < hn
        · have hn3 : hn ≤ 3 := (HU.out.wr _ HM.out).1
          obtain ⟨g2, cells, e3, hB2, hc2, hsz2⟩ := (HU.out.wr _ HM.out).2 (show 0 < hn by omega)
          have e3 : ha = some ⟨g2, 0, none⟩ := e3
          subst e3
          have hst := blk_cell hc2 j
          obtain ⟨y, hy⟩ : ∃ y, cells[j]? = some y := ⟨_, Array.getElem?_eq_getElem (show j < cells.size from Nat.lt_of_lt_of_le hjn hsz2)⟩
          rw [hy] at hst
          have hfr := blk_frozen hc2 j
          have HC2' := Aside0.mk (HU.out.set hc2 hB2 j (.int .i64 (-1)))
          clear hc2 hsz2 hy e3
          go_wp2
          go_roundw
          case rel => exact ⟨j + 1, by omega, by go_num, HC2'⟩
          case measure => simp [intOf]; omega
        · obtain rfl : j = hn := by omega
          go_wp2
          go_roundw
          case rel => exact ⟨i + 1, by omega, by go_num, HU⟩
          case measure => simp [intOf]; omega
    · obtain rfl : i = HS.length := by omega
      have HF : Aside0 (∀ V, Below Wb.heap.size Wb V → Calls Try.prog 27 #[.slice A2 s.length c2, .slice B2 c.length d2] V (Sched V (runL cS s c) (runC cS s c))) := ⟨fun V hV => Careful_s A2 B2 c2 d2 s c V HH.out (Kd.C_below HCb.out hV) (Kd.C_below HDb.out hV)⟩
      have HI1 : Aside0 (∀ V, Below Wb.heap.size Wb V → Calls Try.prog 36 #[.slice A2 s.length c2, .slice A3 s.length c3] V fun e w' => e = .returned (.bool true) ∧ Below V.heap.size V w') := ⟨fun V hV => intsRefl_calls A2 A3 c2 c3 s V (by omega) (Kd.C_below HCb.out hV) _HcA.out (Kd.C_below HC3b.out hV) _HcC.out⟩
      have HI2 : Aside0 (∀ V, Below Wb.heap.size Wb V → Calls Try.prog 36 #[.slice B2 c.length d2, .slice B3 c.length d3] V fun e w' => e = .returned (.bool true) ∧ Below V.heap.size V w') := ⟨fun V hV => intsRefl_calls B2 B3 d2 d3 c V (by omega) (Kd.C_below HDb.out hV) _HcB.out (Kd.C_below HD3b.out hV) _HcD.out⟩
      have HR1 : Aside0 (∀ V, Below Wb.heap.size Wb V → Calls Try.prog 37 #[.slice A3 s.length c3, .slice B3 c.length d3] V (Rowed V (runL cS s c))) := ⟨fun V hV => refCareful_calls A3 B3 c3 d3 s c V HH.out (Kd.C_below HC3b.out hV) _HcC.out (Kd.C_below HD3b.out hV)⟩
      have HRL := Aside0.mk (row_lenO HH.out (careful_sched HH.out))
      have HXn : Aside0 ((runL cS s c).length ≤ 1000) := ⟨by rw [HXL.out]; omega⟩
      have HB := Aside0.mk HU.out.hb
      generalize runL cS s c = X at *
      go_wp2_with (first
        | ((with_reducible refine (HF.out _ HB.out).mono ?_); rintro e V ⟨E5, e5, rfl, he5, hx5, hb⟩; have HX5 := Aside0.mk hx5; have HE5 := Aside0.mk he5; have HB' := Aside0.mk (below_step HB.out hb); clear HB hb he5 hx5; have HB := HB'; clear HB')
        | ((with_reducible refine (HI1.out _ HB.out).mono ?_); rintro e V ⟨rfl, hb⟩; have HX5' := Aside0.mk (Kd.C_below HX5.out hb); clear HX5; have HX5 := HX5'; clear HX5'; have HB' := Aside0.mk (below_step HB.out hb); clear HB hb; have HB := HB'; clear HB')
        | ((with_reducible refine (HI2.out _ HB.out).mono ?_); rintro e V ⟨rfl, hb⟩; have HX5' := Aside0.mk (Kd.C_below HX5.out hb); clear HX5; have HX5 := HX5'; clear HX5'; have HB' := Aside0.mk (below_step HB.out hb); clear HB hb; have HB := HB'; clear HB')
        | ((with_reducible refine (HR1.out _ HB.out).mono ?_); rintro e V ⟨E6, e6, rfl, he6, hx6, hb⟩; have HX5' := Aside0.mk (Kd.C_below HX5.out hb); clear HX5; have HX5 := HX5'; clear HX5'; have HX6 := Aside0.mk hx6; have HE6 := Aside0.mk he6; have HB' := Aside0.mk (below_step HB.out hb); clear HB hb he6 hx6; have HB := HB'; clear HB')
        | ((with_reducible refine (refSame_calls E5 E6 e5 e6 X _ HXn.out HRL.out HX5.out HE5.out HX6.out HE6.out).mono ?_); rintro e V ⟨rfl, hb⟩; have HB' := Aside0.mk (below_step HB.out hb); clear HB hb; have HB := HB'; clear HB')
        | ((with_reducible refine (awake_calls _).mono ?_); rintro e V ⟨rfl, hb⟩; have HB' := Aside0.mk (below_step HB.out hb); clear HB hb; have HB := HB'; clear HB'))
      go_ret
      exact ⟨rfl, below_step HBw.out HB.out⟩
end Go.Proofs.Ythadaajgjloogaa.L
