import Derived.Test.YthadaajgjloogaaLj
namespace Go.Proofs.Ythadaajgjloogaa.L
open Go.RowKit Go.Proofs.YthadaajgjloogaaW.PrintWords Go.Proofs.YthadaajgjloogaaW.PrintLast Go.Proofs.YthadaajgjloogaaW.PrintMore
attribute [local go_sem] max2_int min2_int max_two min_two max_three min_three max_four min_four

/-! ### Potential (21) -/
def qS (a : List Int) (m : Nat) : Nat → Int
  | 0 => 0
  | j + 1 => qS a m j + (rd a m - rd a j)
def pS (a : List Int) : Nat → Int
  | 0 => 0
  | m + 1 => pS a m + qS a m m
def potF (a b : List Int) : Int := a.length * distF a b + pS a a.length
theorem qS_range {a : List Int} (h : fl a) (m : Nat) (hm : m < 3) : ∀ j : Nat, j ≤ 3 → -(30 * (j : Int)) ≤ qS a m j ∧ qS a m j ≤ 30 * (j : Int)
  | 0, _ => by simp [qS]
  | j + 1, hj => by
    have h1 := qS_range h m hm j (by omega)
    have h2 := h m hm
    have h3 := h j (by omega)
    simp only [qS]
    omega
theorem pS_range {a : List Int} (h : fl a) : ∀ m : Nat, m ≤ 3 → -(100 * (m : Int)) ≤ pS a m ∧ pS a m ≤ 100 * (m : Int)
  | 0, _ => by simp [pS]
  | m + 1, hm => by
    have h1 := pS_range h m (by omega)
    have h2 := qS_range h m (by omega) m (by omega)
    simp only [pS]
    omega
def potB (a b : List Int) : Bool := posB a && posB b && decide (a.length = b.length)

theorem ansP_form (l : List Int) : ∃ s, ansP l = .tuple #[.agg #[.int .i64 (rd s 0), .int .i64 (rd s 1), .int .i64 (rd s 2)], .bool (posB l)] ∧ (posB l = true → s = l) := by
  cases h : posB l
  · exact ⟨[], ansP_no (by rw [h]; simp), fun h => by cases h⟩
  · exact ⟨l, ansP_yes h, fun _ => rfl⟩
set_option maxHeartbeats 4000000 in
theorem Potential_no1 (A B : Option Addr) (ca cb : Nat) (a b : List Int) (w : World) (hr : Kd.C (Kd.int .i64) w A a.length a) (hq : Kd.C (Kd.int .i64) w B b.length b) (hpa : posB a = false) :
    Calls Try.prog 21 #[.slice A a.length ca, .slice B b.length cb] w fun e w' => e = .returned (.tuple #[.int .i64 0, .int .i64 2]) ∧ Below w.heap.size w w' := by
  have HA := Aside0.mk (spotsOf_calls A ca a w hr)
  have HQ := Aside0.mk hq
  have l1 := Kd.C_max hr
  have l2 := Kd.C_max hq
  obtain ⟨s, ea, _⟩ := ansP_form a
  obtain ⟨t, eb, _⟩ := ansP_form b
  rw [hpa] at ea
  have EA := Aside0.mk ea
  have EB := Aside0.mk eb
  clear hr hq hpa ea eb
  generalize posB b = ub at *
  go_enter Try.func21, Try.ntmps21
  go_wp2_with (first
    | ((with_reducible refine HA.out.mono ?_); rintro e W ⟨rfl, hb⟩; rw [EA.out]; have HB := Aside0.mk (below_alloc hb (.cells #[.int .i64 (rd s 0), .int .i64 (rd s 1), .int .i64 (rd s 2)] 60)); have HBB := Aside0.mk (spotsOf_calls B cb b _ (Kd.C_below HQ.out HB.out)); clear hb HA)
    | ((with_reducible refine HBB.out.mono ?_); rintro e W2 ⟨rfl, hb⟩; rw [EB.out]; have HB2 := Aside0.mk hb; clear hb))
  go_ret2
  exact ⟨rfl, below_alloc (below_step HB.out HB2.out) _⟩
set_option maxHeartbeats 4000000 in
theorem Potential_no2 (A B : Option Addr) (ca cb : Nat) (a b : List Int) (w : World) (hr : Kd.C (Kd.int .i64) w A a.length a) (hq : Kd.C (Kd.int .i64) w B b.length b) (hpa : posB a = true) (hpb : posB b = false) :
    Calls Try.prog 21 #[.slice A a.length ca, .slice B b.length cb] w fun e w' => e = .returned (.tuple #[.int .i64 0, .int .i64 2]) ∧ Below w.heap.size w w' := by
  have HA := Aside0.mk (spotsOf_calls A ca a w hr)
  have HQ := Aside0.mk hq
  have l1 := Kd.C_max hr
  have l2 := Kd.C_max hq
  obtain ⟨s, ea, _⟩ := ansP_form a
  obtain ⟨t, eb, _⟩ := ansP_form b
  rw [hpa] at ea
  rw [hpb] at eb
  have EA := Aside0.mk ea
  have EB := Aside0.mk eb
  clear hr hq hpa hpb ea eb
  go_enter Try.func21, Try.ntmps21
  go_wp2_with (first
    | ((with_reducible refine HA.out.mono ?_); rintro e W ⟨rfl, hb⟩; rw [EA.out]; have HB := Aside0.mk (below_alloc hb (.cells #[.int .i64 (rd s 0), .int .i64 (rd s 1), .int .i64 (rd s 2)] 60)); have HBB := Aside0.mk (spotsOf_calls B cb b _ (Kd.C_below HQ.out HB.out)); clear hb HA)
    | ((with_reducible refine HBB.out.mono ?_); rintro e W2 ⟨rfl, hb⟩; rw [EB.out]; have HB2 := Aside0.mk hb; clear hb))
  go_ret2
  exact ⟨rfl, below_alloc (below_step HB.out HB2.out) _⟩
set_option maxHeartbeats 4000000 in
theorem Potential_no3 (A B : Option Addr) (ca cb : Nat) (a b : List Int) (w : World) (hr : Kd.C (Kd.int .i64) w A a.length a) (hq : Kd.C (Kd.int .i64) w B b.length b) (hpa : posB a = true) (hpb : posB b = true) (hl : a.length ≠ b.length) :
    Calls Try.prog 21 #[.slice A a.length ca, .slice B b.length cb] w fun e w' => e = .returned (.tuple #[.int .i64 0, .int .i64 2]) ∧ Below w.heap.size w w' := by
  have HA := Aside0.mk (spotsOf_calls A ca a w hr)
  have HQ := Aside0.mk hq
  have l1 := Kd.C_max hr
  have l2 := Kd.C_max hq
  obtain ⟨s, ea, _⟩ := ansP_form a
  obtain ⟨t, eb, _⟩ := ansP_form b
  rw [hpa] at ea
  rw [hpb] at eb
  have EA := Aside0.mk ea
  have EB := Aside0.mk eb
  have hl' : (a.length != b.length) = true := by rw [bne_iff_ne]; exact hl
  have hl2 : ((a.length : Int) != (b.length : Int)) = true := by rw [bne_iff_ne]; omega
  clear hr hq hpa hpb ea eb hl
  go_enter Try.func21, Try.ntmps21
  go_wp2_with (first
    | ((with_reducible refine HA.out.mono ?_); rintro e W ⟨rfl, hb⟩; rw [EA.out]; have HB := Aside0.mk (below_alloc hb (.cells #[.int .i64 (rd s 0), .int .i64 (rd s 1), .int .i64 (rd s 2)] 60)); have HBB := Aside0.mk (spotsOf_calls B cb b _ (Kd.C_below HQ.out HB.out)); clear hb HA)
    | ((with_reducible refine HBB.out.mono ?_); rintro e W2 ⟨rfl, hb⟩; rw [EB.out]; have HB2 := Aside0.mk hb; clear hb))
  go_ret2
  exact ⟨rfl, below_alloc (below_step HB.out HB2.out) _⟩
theorem Potential_no (A B : Option Addr) (ca cb : Nat) (a b : List Int) (w : World) (hr : Kd.C (Kd.int .i64) w A a.length a) (hq : Kd.C (Kd.int .i64) w B b.length b) (hh : potB a b = false) :
    Calls Try.prog 21 #[.slice A a.length ca, .slice B b.length cb] w fun e w' => e = .returned (.tuple #[.int .i64 0, .int .i64 2]) ∧ Below w.heap.size w w' := by
  cases hpa : posB a
  · exact Potential_no1 A B ca cb a b w hr hq hpa
  cases hpb : posB b
  · exact Potential_no2 A B ca cb a b w hr hq hpa hpb
  · exact Potential_no3 A B ca cb a b w hr hq hpa hpb (by simp [potB, hpa, hpb] at hh; omega)

set_option maxHeartbeats 4000000 in
theorem Potential_yes (A B : Option Addr) (ca cb : Nat) (a b : List Int) (w : World) (hr : Kd.C (Kd.int .i64) w A a.length a) (hq : Kd.C (Kd.int .i64) w B b.length b) (hca : a.length ≤ ca) (hh : potB a b = true) :
    Calls Try.prog 21 #[.slice A a.length ca, .slice B b.length cb] w fun e w' => e = .returned (.tuple #[.int .i64 (potF a b), .int .i64 0]) ∧ Below w.heap.size w w' := by
  simp only [potB, Bool.and_eq_true, decide_eq_true_eq] at hh
  obtain ⟨⟨hpa, hpb⟩, hl⟩ := hh
  have HA := Aside0.mk (spotsOf_calls A ca a w hr)
  have HQ := Aside0.mk hq
  have HR := Aside0.mk hr
  have l1 := Kd.C_max hr
  have l2 := Kd.C_max hq
  have EA : Aside0 (ansP a = .tuple #[.agg #[.int .i64 (rd a 0), .int .i64 (rd a 1), .int .i64 (rd a 2)], .bool true]) := ⟨ansP_yes hpa⟩
  have EB : Aside0 (ansP b = .tuple #[.agg #[.int .i64 (rd b 0), .int .i64 (rd b 1), .int .i64 (rd b 2)], .bool true]) := ⟨ansP_yes hpb⟩
  have PA := Aside0.mk (posB_pos hpa)
  have PB := Aside0.mk (posB_pos hpb)
  have hl' : (a.length != b.length) = false := by rw [hl]; simp
  have hl2 : ((a.length : Int) != (b.length : Int)) = false := by rw [hl]; simp
  have HL := Aside0.mk hl
  have h3 := PA.out.2.2
  clear hr hq hpa hpb hl
  go_enter Try.func21, Try.ntmps21
  go_upto_region 6 with (first
    | ((with_reducible refine HA.out.mono ?_); rintro e W ⟨rfl, hb⟩; rw [EA.out]; have HB := Aside0.mk (below_alloc hb (.cells #[.int .i64 (rd a 0), .int .i64 (rd a 1), .int .i64 (rd a 2)] 60)); have HBB := Aside0.mk (spotsOf_calls B cb b _ (Kd.C_below HQ.out HB.out)); clear hb HA)
    | ((with_reducible refine HBB.out.mono ?_); rintro e W2 ⟨rfl, hb⟩; rw [EB.out]; have HB2 := Aside0.mk hb; clear hb))
  refine wpc_world (fun V => Aside0 (V.heap[W.heap.size]? = some (.cells (sp a) 60 (0, 0))) ∧ Aside0 (V.heap[W2.heap.size]? = some (.cells (sp b) 60 (0, 0))) ∧ Aside0 (V.heap[W2.heap.size + 1]? = some (.cells (hl a.length [] (.slice none 0 0)) 62 (0, 0))) ∧ Aside0 (Below w.heap.size w V))
    ⟨⟨alo (alo ((HB2.out.block _ (by simp)).trans (aln _ _)) _) _⟩, ⟨alo (aln _ _) _⟩, ⟨aln' _ _ (by simp)⟩, ⟨below_alloc (below_alloc (below_step HB.out HB2.out) _) _⟩⟩ ?_
  clear HB HB2
  rintro V ⟨H6, H8, H10, HB⟩
  obtain ⟨⟨c0, c1, c2, c3, c4⟩, _⟩ := hl_read H10.out
  obtain ⟨r0, r1, r2, _, _, _⟩ := sp_read H6.out
  obtain ⟨t0, t1, t2, _, _, _⟩ := sp_read H8.out
  have HD := Aside0.mk (distF_range PA.out.1 (by have := PB.out.1; rwa [← HL.out] at this) PA.out.2.2)
  have HDF : Aside0 (sumI (dl a b a.length) = distF a b) := ⟨rfl⟩
  obtain ⟨d0, d1⟩ := HD.out
  have hn1 : (0 : Int) ≤ a.length := by omega
  have hn3 : (a.length : Int) ≤ 3 := by omega
  have hm0 : 0 ≤ (a.length : Int) * distF a b := Int.mul_nonneg hn1 d0
  have hm1 : (a.length : Int) * distF a b ≤ 270 := by
    have := Int.mul_le_mul hn3 d1 d0 (by omega)
    omega
  go_region_held3 (fun w' => w'.cell? ⟨W2.heap.size + 1, 0, none⟩ = some (.int .i64 a.length) ∧ w'.cell? ⟨W2.heap.size + 1, 1, none⟩ = some (.int .i64 (rd [] 0)) ∧ w'.cell? ⟨W2.heap.size + 1, 2, none⟩ = some (.int .i64 (rd [] 1)) ∧ w'.cell? ⟨W2.heap.size + 1, 3, none⟩ = some (.int .i64 (rd [] 2)) ∧ w'.cell? ⟨W2.heap.size + 1, 4, none⟩ = some (.slice none 0 0) ∧
      w'.cell? ⟨W.heap.size, 0, none⟩ = some (.int .i64 (rd a 0)) ∧ w'.cell? ⟨W.heap.size, 1, none⟩ = some (.int .i64 (rd a 1)) ∧ w'.cell? ⟨W.heap.size, 2, none⟩ = some (.int .i64 (rd a 2)) ∧
      w'.cell? ⟨W2.heap.size, 0, none⟩ = some (.int .i64 (rd b 0)) ∧ w'.cell? ⟨W2.heap.size, 1, none⟩ = some (.int .i64 (rd b 1)) ∧ w'.cell? ⟨W2.heap.size, 2, none⟩ = some (.int .i64 (rd b 2))) (go_keep)
    (first
      | (go_at_call 54; refine (distance_calls a.length [] (.slice none 0 0) a b _ h3 PA.out.1.fl PB.out.1.fl).mono ?_; rintro e V2 ⟨rfl, hb⟩; rw [HDF.out]; have G6 := Aside0.mk ((hb.block _ (blk_lt H6.out)).trans H6.out); have G8 := Aside0.mk ((hb.block _ (blk_lt H8.out)).trans H8.out); have G10 := Aside0.mk ((hb.block _ (blk_lt H10.out)).trans H10.out); have GB := Aside0.mk (below_step (below_drew1 HB.out) hb); clear hb; obtain ⟨⟨c0, c1, c2, c3, c4⟩, _⟩ := hl_read G10.out; obtain ⟨r0, r1, r2, _, _, _⟩ := sp_read G6.out; obtain ⟨t0, t1, t2, _, _, _⟩ := sp_read G8.out))
  clear c0 c1 c2 c3 c4 r0 r1 r2 t0 t1 t2
  rw [show IntKind.i64.wrap ((a.length : Int) * distF a b) = (a.length : Int) * distF a b from IntWalk.i64_in _ (by omega)]
  have HPF : Aside0 (potF a b = (a.length : Int) * distF a b + pS a a.length) := ⟨rfl⟩
  generalize (a.length : Int) * distF a b = K0 at *
  have HCA := Aside0.mk (Kd.C_below HR.out GB.out)
  go_wp2
  go_loop [11, 12, 13, 51] (fun v11 _ _ v51 => ∃ m : Nat, m ≤ a.length ∧ v51 = .int .i64 m ∧ v11 = .int .i64 (K0 + pS a m)) (fun _ _ _ v51 => a.length - (intOf v51).toNat)
  case atStart => exact ⟨0, Nat.zero_le _, rfl, by simp [pS]⟩
  case round =>
    obtain ⟨m, hm, rfl, rfl⟩ := hrel
    have hpr := pS_range PA.out.1.fl m (by omega)
    by_cases hlt : m < a.length
    · obtain ⟨ad, rfl, hx⟩ := Kd.at_int HCA.out (m : Int) (by omega) (by omega)
      rw [Int.toNat_natCast] at hx
      obtain ⟨p0, p1⟩ := PA.out.1.fl m (by omega)
      have HPS : Aside0 (pS a (m + 1) = pS a m + qS a m m) := ⟨rfl⟩
      go_wp2
      go_loop [11, 15, 60] (fun v11 _ v60 => ∃ j : Nat, j ≤ m ∧ v60 = .int .i64 j ∧ v11 = .int .i64 (K0 + pS a m + qS a m j)) (fun _ _ v60 => m - (intOf v60).toNat)
      case atStart => exact ⟨0, Nat.zero_le _, rfl, by simp [qS]⟩
      case round =>
        obtain ⟨j, hj, rfl, rfl⟩ := hrel
        have hqr := qS_range PA.out.1.fl m (by omega) j (by omega)
        by_cases hjl : j < m
        · obtain ⟨ad', e', hy⟩ := Kd.at_int HCA.out (j : Int) (by omega) (by omega)
          cases e'
          rw [Int.toNat_natCast] at hy
          obtain ⟨y0, y1⟩ := PA.out.1.fl j (by omega)
          have HQS : Aside0 (qS a m (j + 1) = qS a m j + (rd a m - rd a j)) := ⟨rfl⟩
          go_wp2
          go_round
          case rel => exact ⟨j + 1, by omega, by go_num, by rw [HQS.out]; go_num⟩
          case measure => simp [intOf]; omega
        · obtain rfl : j = m := by omega
          go_wp2
          go_round
          case rel => exact ⟨j + 1, by omega, by go_num, by rw [HPS.out]; go_num⟩
          case measure => simp [intOf]; omega
    · obtain rfl : m = a.length := by omega
      go_wp2
      go_ret2
      exact ⟨by rw [HPF.out]; rfl, GB.out⟩
end Go.Proofs.Ythadaajgjloogaa.L
