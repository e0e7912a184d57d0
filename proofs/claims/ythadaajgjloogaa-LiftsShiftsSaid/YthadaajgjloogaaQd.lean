import Derived.Test.YthadaajgjloogaaQc
import Derived.Test.YthadaajgjloogaaPLiftsWorksx10
namespace Go.Proofs.Ythadaajgjloogaa.L
open Go.RowKit Go.Shelf Go.Proofs.YthadaajgjloogaaW.PrintWords Go.Proofs.YthadaajgjloogaaW.PrintLast Go.Proofs.YthadaajgjloogaaW.PrintMore
open Go.Proofs.Ythadaajgjloogaa.PLiftsWorks

theorem w64 (n : Int) (h : -9223372036854775808 ≤ n ∧ n ≤ 9223372036854775807) : wrap64 n = n := by rw [← IntWalk.i64_left]; exact IntWalk.i64_in n h

/-! ### Floors, Positions, Calls of the reference -/
theorem floors_l0 (l : List Int) (hl : l.length ≤ 1000) : ∀ (d i fuel : Nat), i + d = l.length → d + 1 ≤ fuel → turndownref07_Floors.l0 fuel l i = some (decide (∀ j : Nat, j < l.length → i ≤ j → 0 ≤ rd l j ∧ rd l j ≤ 30))
  | _, _, 0, _, hf => by omega
  | 0, i, fuel + 1, h, hf => by
    rw [turndownref07_Floors.l0, if_neg (by omega)]
    simp only [Option.some.injEq, Bool.true_eq, decide_eq_true_eq]
    intro j h1 h2; omega
  | d + 1, i, fuel + 1, h, hf => by
    have ih := floors_l0 l hl d (i + 1) fuel (by omega) (by omega)
    rw [turndownref07_Floors.l0, if_pos (by omega), if_pos (by omega), w64 _ (by omega), show (i : Int) + 1 = ((i + 1 : Nat) : Int) by omega, ih]
    by_cases h1 : rd l i < 0
    · rw [if_pos h1]
      simp only [Option.some.injEq, Bool.false_eq, decide_eq_false_iff_not]
      intro hall
      have := hall i (by omega) (Nat.le_refl _); omega
    · rw [if_neg h1]
      by_cases h2 : rd l i > 30
      · rw [if_pos h2]
        simp only [Option.some.injEq, Bool.false_eq, decide_eq_false_iff_not]
        intro hall
        have := hall i (by omega) (Nat.le_refl _); omega
      · rw [if_neg h2]
        simp only [Option.some.injEq, decide_eq_decide]
        constructor
        · intro hall j hj2 hj1
          rcases Nat.lt_or_ge i j with h3 | h3
          · exact hall j hj2 h3
          · obtain rfl : i = j := by omega
            omega
        · intro hall j hj2 hj1
          exact hall j hj2 (by omega)
def floorsB (l : List Int) : Bool := decide (∀ j : Nat, j < l.length → 0 ≤ j → 0 ≤ rd l j ∧ rd l j ≤ 30)
theorem floors_f (l : List Int) (hl : l.length ≤ 1000) (fuel : Nat) (hf : l.length + 1 ≤ fuel) : turndownref07_Floors.f fuel l = some (floorsB l) := floors_l0 l hl l.length 0 fuel (by omega) hf
theorem pos_l0 (l : List Int) (hl : l.length ≤ 1000) : ∀ (d i fuel : Nat), 1 ≤ i → (i + d = l.length ∨ (d = 0 ∧ l.length ≤ i)) → i ≤ 1001 → l.length + d + 2 ≤ fuel →
    turndownref07_Positions.l0 fuel l i = some (decide (∀ j : Nat, j < l.length → i ≤ j → rd l ((j : Int) - 1) ≤ rd l j) && (decide (1 ≤ l.length) && decide (l.length ≤ 3) && floorsB l))
  | _, _, 0, _, _, _, hf => by omega
  | 0, i, fuel + 1, h1, h, hi, hf => by
    rw [turndownref07_Positions.l0, if_neg (by omega), floors_f l hl fuel (by omega)]
    have ht : decide (∀ j : Nat, j < l.length → i ≤ j → rd l ((j : Int) - 1) ≤ rd l j) = true := by
      rw [decide_eq_true_eq]; intro j h1 h2; omega
    rw [ht]
    by_cases h3 : 1 ≤ l.length
    · rw [if_pos (by omega)]
      by_cases h4 : l.length ≤ 3
      · rw [if_pos (by omega)]; simp [h3, h4]
      · rw [if_neg (by omega)]; simp [h4]
    · rw [if_neg (by omega)]; simp [h3]
  | d + 1, i, fuel + 1, h1, h, hi, hf => by
    have ih := pos_l0 l hl d (i + 1) fuel (by omega) (by omega) (by omega) (by omega)
    have e : (i : Int) - 1 = ((i - 1 : Nat) : Int) := by omega
    rw [turndownref07_Positions.l0, if_pos (by omega), w64 _ (by omega), if_pos (by omega), if_pos (by omega), if_pos (by omega), w64 _ (by omega), show (i : Int) + 1 = ((i + 1 : Nat) : Int) by omega, ih]
    by_cases h2 : rd l ((i : Int) - 1) > rd l i
    · rw [if_pos h2]
      have : decide (∀ j : Nat, j < l.length → i ≤ j → rd l ((j : Int) - 1) ≤ rd l j) = false := by
        rw [decide_eq_false_iff_not]
        intro hall
        have := hall i (by omega) (Nat.le_refl _); omega
      rw [this]; simp
    · rw [if_neg h2]
      congr 2
      rw [decide_eq_decide]
      constructor
      · intro hall j hj2 hj1
        rcases Nat.lt_or_ge i j with h3 | h3
        · exact hall j hj2 h3
        · obtain rfl : i = j := by omega
          omega
      · intro hall j hj2 hj1
        exact hall j hj2 (by omega)
theorem pos_f (l : List Int) (hl : l.length ≤ 1000) : turndownref07_Positions.f 3000 l = some (posB l) := by
  have h := pos_l0 l hl (l.length - 1) 1 3000 (by omega) (by omega) (by omega) (by omega)
  refine h.trans ?_
  congr 1
  rw [Bool.eq_iff_iff, posB_iff]
  simp only [floorsB, Bool.and_eq_true, decide_eq_true_eq]
  constructor
  · rintro ⟨h1, ⟨h2, h3⟩, h4⟩
    exact ⟨⟨h2, h3⟩, fun i hi => ⟨(h4 i hi (by omega)).1, (h4 i hi (by omega)).2, fun h0 => h1 i hi h0⟩⟩
  · rintro ⟨⟨h2, h3⟩, h4⟩
    exact ⟨fun j hj h1 => (h4 j hj).2.2 h1, ⟨h2, h3⟩, fun j hj _ => ⟨(h4 j hj).1, (h4 j hj).2.1⟩⟩
theorem posRef_calls (A : Option Addr) (c : Nat) (l : List Int) (w : World) (hr : Kd.C (Kd.int .i64) w A l.length l) (hc : l.length ≤ c) (hl : l.length ≤ 1000) :
    Calls Try.prog 15 #[.slice A l.length c] w fun e w' => e = .returned (.bool (posB l)) ∧ Drawn0 w w' := turndownref07_Positions.calls 3000 A c l _ w hr hc (pos_f l hl)
theorem floorsB_iff (l : List Int) : floorsB l = true ↔ ∀ x ∈ l, 0 ≤ x ∧ x ≤ 30 := by
  simp only [floorsB, decide_eq_true_eq]
  constructor
  · intro h x hx
    obtain ⟨i, hi, rfl⟩ := List.mem_iff_getElem.1 hx
    have := h i hi (by omega)
    simpa [rd, List.getD, hi] using this
  · intro h j hj _
    exact h _ (rd_mem hj)
theorem calls_f (l : List Int) (hl : l.length ≤ 1000) : turndownref07_Calls.f 3000 l = some (callsB l) := by
  unfold turndownref07_Calls.f
  rw [floors_f l hl 3000 (by omega)]
  by_cases h : l.length ≤ 40
  · rw [if_pos (by omega)]
    simp only [Option.bind_some, Option.some.injEq]
    rw [Bool.eq_iff_iff, floorsB_iff, callsB_iff]
    exact ⟨fun h2 => ⟨h, h2⟩, fun h2 => h2.2⟩
  · rw [if_neg (by omega)]
    simp only [Option.some.injEq]
    rw [Bool.eq_iff_iff, callsB_iff]
    constructor
    · intro h2; cases h2
    · intro h2; omega
theorem callsRef_calls (A : Option Addr) (c : Nat) (l : List Int) (w : World) (hr : Kd.C (Kd.int .i64) w A l.length l) (hc : l.length ≤ c) (hl : l.length ≤ 1000) :
    Calls Try.prog 16 #[.slice A l.length c] w fun e w' => e = .returned (.bool (callsB l)) ∧ Drawn0 w w' := turndownref07_Calls.calls 3000 A c l _ w hr hc (calls_f l hl)

/-! ### Distance -/
theorem mx_ab (x y : Int) : mx (x - y) (y - x) = ab x y := by unfold mx ab; split <;> split <;> omega
theorem dist_l0 (a b : List Int) (ha : ∀ x ∈ a, 0 ≤ x ∧ x ≤ 30) (hb : ∀ x ∈ b, 0 ≤ x ∧ x ≤ 30) (hl : a.length ≤ b.length) (h1 : a.length ≤ 1000) : ∀ (d i fuel : Nat), i + d = a.length → d + 1 ≤ fuel →
    0 ≤ sumI (dl a b i) → sumI (dl a b i) ≤ 30 * i → turndownref07_Distance.l0 fuel a b (sumI (dl a b i)) i = some (sumI (dl a b a.length))
  | _, _, 0, _, hf, _, _ => by omega
  | 0, i, fuel + 1, h, hf, _, _ => by
    rw [turndownref07_Distance.l0, if_neg (by omega)]
    rw [show i = a.length by omega]
  | d + 1, i, fuel + 1, h, hf, s0, s1 => by
    have ha := ha _ (rd_mem (s := a) (i := i) (by omega))
    have hb := hb _ (rd_mem (s := b) (i := i) (by omega))
    have hab := ab_r30 ha hb
    have e : sumI (dl a b (i + 1)) = sumI (dl a b i) + ab (rd a i) (rd b i) := by rw [dl_succ, sumI_append]; simp [sumI]
    rw [turndownref07_Distance.l0, if_pos (by omega), if_pos (by omega), if_pos (by omega), w64 (rd a i - rd b i) (by omega), w64 (rd b i - rd a i) (by omega), mx_ab, w64 _ (by omega), w64 _ (by omega), ← e, show (i : Int) + 1 = ((i + 1 : Nat) : Int) by omega]
    exact dist_l0 a b ‹_› ‹_› hl h1 d (i + 1) fuel (by omega) (by omega) (by omega) (by omega)
theorem distRef_calls (A B : Option Addr) (ca cb : Nat) (a b : List Int) (w : World) (hr : Kd.C (Kd.int .i64) w A a.length a) (hca : a.length ≤ ca) (hq : Kd.C (Kd.int .i64) w B b.length b) (hcb : b.length ≤ cb)
    (ha : ∀ x ∈ a, 0 ≤ x ∧ x ≤ 30) (hb : ∀ x ∈ b, 0 ≤ x ∧ x ≤ 30) (hl : a.length ≤ b.length) (h1 : a.length ≤ 1000) :
    Calls Try.prog 29 #[.slice A a.length ca, .slice B b.length cb] w fun e w' => e = .returned (.int .i64 (distF a b)) ∧ Below w.heap.size w w' :=
  turndownref07_Distance.calls 3000 A ca a B cb b _ w hr hca hq hcb (dist_l0 a b ha hb hl h1 a.length 0 3000 (by omega) (by omega) (by simp [dl, sumI]) (by simp [dl, sumI]))
end Go.Proofs.Ythadaajgjloogaa.L

namespace Go.Proofs.Ythadaajgjloogaa.L
open Go.RowKit Go.Shelf Go.Proofs.YthadaajgjloogaaW.PrintWords Go.Proofs.YthadaajgjloogaaW.PrintLast Go.Proofs.YthadaajgjloogaaW.PrintMore
attribute [local go_sem] max2_int min2_int max_two min_two max_three min_three max_four min_four
attribute [local go_sem] Oper.semAt_some

/-! ### the reference's Potential (22) -/
set_option maxHeartbeats 4000000 in
theorem refPot_calls (A B : Option Addr) (ca cb : Nat) (a b : List Int) (w : World) (hr : Kd.C (Kd.int .i64) w A a.length a) (hca : a.length ≤ ca) (hq : Kd.C (Kd.int .i64) w B b.length b) (hcb : b.length ≤ cb) (hh : potB a b = true) :
    Calls Try.prog 22 #[.slice A a.length ca, .slice B b.length cb] w fun e w' => e = .returned (.int .i64 (potF a b)) ∧ Below w.heap.size w w' := by
  simp only [potB, Bool.and_eq_true, decide_eq_true_eq] at hh
  obtain ⟨⟨hpa, hpb⟩, hl⟩ := hh
  have PA := Aside0.mk (posB_pos hpa)
  have PB := Aside0.mk (posB_pos hpb)
  have h3 := PA.out.2.2
  have HDC := Aside0.mk (distRef_calls A B ca cb a b w hr hca hq hcb PA.out.1.all PB.out.1.all (by omega) (by omega))
  have HR := Aside0.mk hr
  have HL := Aside0.mk hl
  have HD := Aside0.mk (distF_range PA.out.1 (by have := PB.out.1; rwa [← HL.out] at this) PA.out.2.2)
  obtain ⟨d0, d1⟩ := HD.out
  have hn1 : (0 : Int) ≤ a.length := by omega
  have hn3 : (a.length : Int) ≤ 3 := by omega
  have hm0 : 0 ≤ (a.length : Int) * distF a b := Int.mul_nonneg hn1 d0
  have hm1 : (a.length : Int) * distF a b ≤ 270 := by
    have := Int.mul_le_mul hn3 d1 d0 (by omega)
    omega
  have hwr : IntKind.i64.wrap ((a.length : Int) * distF a b) = (a.length : Int) * distF a b := IntWalk.i64_in _ (by omega)
  clear hr hq hpa hpb hl hca hcb
  go_enter Try.func22, Try.ntmps22
  go_upto_region 2 with ((with_reducible refine HDC.out.mono ?_); rintro e W ⟨rfl, hb⟩; have HB := Aside0.mk hb; clear hb)
  have HPF : Aside0 (potF a b = (a.length : Int) * distF a b + pS a a.length) := ⟨rfl⟩
  generalize (a.length : Int) * distF a b = K0 at *
  clear hwr HDC HD d0 d1
  go_wp2
  go_loopw [5, 6, 7] (fun v5 v6 _ wr => ∃ m : Nat, m ≤ a.length ∧ v6 = .int .i64 m ∧ v5 = .int .i64 (K0 + pS a m) ∧ Aside0 (Below w.heap.size w wr)) (fun _ v6 _ _ => a.length - (intOf v6).toNat)
  case atStart => exact ⟨0, Nat.zero_le _, rfl, by simp [pS], HB⟩
  case round =>
    clear HB
    obtain ⟨m, hm, rfl, rfl, HB⟩ := hrel
    have hpr := pS_range PA.out.1.fl m (by omega)
    by_cases hlt : m < a.length
    · have HPS : Aside0 (pS a (m + 1) = pS a m + qS a m m) := ⟨rfl⟩
      go_wp2
      go_loopw [5, 7] (fun v5 v7 wr => ∃ j : Nat, j ≤ m ∧ v7 = .int .i64 j ∧ v5 = .int .i64 (K0 + pS a m + qS a m j) ∧ Aside0 (Below w.heap.size w wr)) (fun _ v7 _ => m - (intOf v7).toNat)
      case atStart => exact ⟨0, Nat.zero_le _, rfl, by simp [qS], HB⟩
      case round =>
        clear HB
        obtain ⟨j, hj, rfl, rfl, HB⟩ := hrel
        have hqr := qS_range PA.out.1.fl m (by omega) j (by omega)
        have HCA := Kd.C_below HR.out HB.out
        by_cases hjl : j < m
        · obtain ⟨ad, rfl, hx⟩ := Kd.at_int HCA (m : Int) (by omega) (by omega)
          obtain ⟨ad', e', hy⟩ := Kd.at_int HCA (j : Int) (by omega) (by omega)
          cases e'
          rw [Int.toNat_natCast] at hx hy
          clear HCA
          obtain ⟨p0, p1⟩ := PA.out.1.fl m (by omega)
          obtain ⟨y0, y1⟩ := PA.out.1.fl j (by omega)
          have HQS : Aside0 (qS a m (j + 1) = qS a m j + (rd a m - rd a j)) := ⟨rfl⟩
          have hw1 : IntKind.i64.wrap (K0 + pS a m + qS a m j + rd a m) = K0 + pS a m + qS a m j + rd a m := IntWalk.i64_in _ (by omega)
          have hw2 : IntKind.i64.wrap (K0 + pS a m + qS a m j + rd a m - rd a j) = K0 + pS a m + qS a m j + rd a m - rd a j := IntWalk.i64_in _ (by omega)
          go_wp2
          go_quiet (fail)
          go_wp2
          go_roundw
          case rel => exact ⟨j + 1, by omega, by go_num, by rw [HQS.out]; congr 1; omega, ⟨pw_below_drewN HB.out _⟩⟩
          case measure => simp [intOf]; omega
        · obtain rfl : j = m := by omega
          go_wp2
          go_roundw
          case rel => exact ⟨j + 1, by omega, by go_num, by rw [HPS.out]; congr 1; omega, HB⟩
          case measure => simp [intOf]; omega
    · obtain rfl : m = a.length := by omega
      go_wp2
      go_ret
      exact ⟨by rw [HPF.out]; rfl, HB.out⟩
end Go.Proofs.Ythadaajgjloogaa.L

namespace Go.Proofs.Ythadaajgjloogaa.L
open Go.RowKit Go.Shelf Go.Proofs.YthadaajgjloogaaW.PrintWords Go.Proofs.YthadaajgjloogaaW.PrintLast Go.Proofs.YthadaajgjloogaaW.PrintMore
attribute [local go_sem] max2_int min2_int max_two min_two max_three min_three max_four min_four
attribute [local go_sem] Oper.semAt_some

/-! ### the reference's insert (106) -/
theorem insL_split : ∀ (m : Nat) (l : List Int) (x : Int), m ≤ l.length → (∀ i : Nat, i < m → rd l i ≤ x) → (m = l.length ∨ x < rd l m) → l.take m ++ [x] ++ l.drop m = insL x l
  | 0, [], x, _, _, _ => rfl
  | 0, y :: r, x, _, _, h => by
    have : x < y := by
      rcases h with h | h
      · simp at h
      · simpa [rd] using h
    simp only [List.take_zero, List.nil_append, List.drop_zero, List.singleton_append, insL]
    rw [if_neg (by omega)]
  | m + 1, [], x, h, _, _ => by simp at h
  | m + 1, y :: r, x, h, h1, h2 => by
    have h0 : y ≤ x := by simpa [rd] using h1 0 (by omega)
    have ih := insL_split m r x (by simpa using h) (fun i hi => by have := h1 (i + 1) (by omega); rwa [rd_cons] at this) (by
      rcases h2 with h2 | h2
      · left; simpa using h2
      · right; rwa [rd_cons] at h2)
    simp only [List.take_succ_cons, List.drop_succ_cons, List.cons_append, insL]
    rw [if_pos h0, ih]

set_option maxRecDepth 100000 in
set_option maxHeartbeats 4000000 in
theorem insert_calls (A : Option Addr) (c : Nat) (l : List Int) (x : Int) (w : World) (hr : Kd.C (Kd.int .i64) w A l.length l) (hc : l.length ≤ c) (hl : l.length ≤ 1000) :
    Calls Try.prog 106 #[.slice A l.length c, .int .i64 x] w fun e w' => ∃ v, e = .returned v ∧ Kd.R (Kd.int .i64) 3 w' w.heap.size (fun x => w.heap.size ≤ x) v (insL x l) ∧ Below w.heap.size w w' := by
  have HR0 := Aside0.mk hr
  have HC0 := Aside0.mk hc
  have HL := Aside0.mk hl
  have hmx := Kd.C_max hr
  clear hr hc hl
  go_enter Try.func106, Try.ntmps106
  go_wp2
  go_loopw [5] (fun v5 wr => ∃ m : Nat, m ≤ l.length ∧ v5 = .int .i64 m ∧ (∀ i : Nat, i < m → rd l i ≤ x) ∧ Aside0 (Below w.heap.size w wr)) (fun v5 _ => l.length - (intOf v5).toNat)
  case atStart => exact ⟨0, Nat.zero_le _, rfl, fun i hi => by omega, ⟨Below.refl _ _⟩⟩
  case round =>
    obtain ⟨m, hm, rfl, hle, HB⟩ := hrel
    by_cases hlt : m < l.length
    · obtain ⟨ad, e', hx⟩ := Kd.at_int (Kd.C_below HR0.out HB.out) (m : Int) (by omega) (by omega)
      subst e'
      rw [Int.toNat_natCast] at hx
      by_cases hgo : rd l m ≤ x
      · have hgo' := decide_eq_true hgo
        have HLE : Aside0 (∀ i : Nat, i < m + 1 → rd l i ≤ x) := ⟨fun i hi => by
          rcases Nat.lt_or_ge i m with h | h
          · exact hle i h
          · obtain rfl : i = m := by omega
            exact hgo⟩
        clear hle hgo
        go_wp2
        go_roundw
        case rel => exact ⟨m + 1, by omega, by go_num, HLE.out, HB⟩
        case measure => simp [intOf]; omega
      · have hgo' := decide_eq_false hgo
        have hstop : m = l.length ∨ x < rd l m := Or.inr (by omega)
        clear hgo
        have HSP : Aside0 (l.take m ++ [x] ++ l.drop m = insL x l) := ⟨insL_split m l x hm hle hstop⟩
        obtain ⟨i0, hi0, _, hsz, _⟩ := info_parts info3
        obtain ⟨hcut, hA, _⟩ := print_take_of (P := Try.prog) (Value.int .i64) 0 22 3 .i64 Try.underlying22 hi0 hsz (some ad) c l (m : Int) (by omega) (by omega) HC0.out
        obtain ⟨A', hcut2, hA2, _⟩ := print_drop_of (P := Try.prog) (Value.int .i64) 0 22 3 .i64 Try.underlying22 hi0 hsz (some ad) c l (m : Int) (by omega) (by omega) HC0.out
        rw [Int.toNat_natCast] at hcut hA hcut2 hA2
        have HC1 := Aside0.mk (Kd.C_of_reads (h1 := fun _ => rfl) (hA wr (Kd.reads_of_C (Kd.C_below HR0.out HB.out))))
        have HC2 := Aside0.mk (Kd.C_of_reads (h1 := fun _ => rfl) (hA2 w (Kd.reads_of_C HR0.out)))
        have HL1 : Aside0 ((l.take m).length ≤ 1000) := ⟨by rw [List.length_take]; have := HL.out; omega⟩
        have HL2 : Aside0 ((l.drop m).length ≤ 1000) := ⟨by rw [List.length_drop]; have := HL.out; omega⟩
        have hwz := HB.out.size
        clear hA hA2 hi0 hsz hstop
        generalize l.take m = ys at *
        generalize l.drop m = zs at *
        go_wp2_with (first
          | ((with_reducible refine gate_builtin (b := .append) (xs := #[.tmp 21, .tmp 24]) rfl ?_); at_builtin; refine Kd.R_append_row (Value.int .i64) 0 (h1 := fun _ => rfl) (w0 := wr) w.heap.size rfl (.tmp 21) (.tmp 24) 22 3 (.int .i64 0) 8 rfl Try.underlying22 info3 rfl (by omega) (.slice none 0 0) ([] : List Int) ys (some ad) ys.length c (fun x => w.heap.size ≤ x) rfl rfl (fun _ h => Nat.le_trans hwz h) (Kd.R_nil _ _ _ _ _) HC1.out (Below.refl _ _) hwz (by have := HL1.out; simp; omega) ?_; intro v1 w1 hR hB hg hat; have HR1 := Aside0.mk hR; have HB1 := Aside0.mk hB; have HG1 : Aside0 (Below wr.heap.size wr w1) := ⟨below_of_grown hg⟩; clear hR hB hg hat)
          | ((with_reducible refine gate_builtin (b := .append) (xs := #[.tmp 26, .tmp 28]) rfl ?_); at_builtin; refine Kd.R_append (Kd.int .i64) (w0 := w1) (W := w1) w.heap.size rfl (.tmp 26) (.tmp 28) 22 3 (.int .i64 0) 8 rfl Try.underlying22 info3 rfl (by decide) (by omega) v1 ([] ++ ys) x [.int .i64 x] (fun x => w.heap.size ≤ x) (fun _ => False) rfl rfl rfl (fun _ h => h.elim) (fun _ h => Nat.le_trans (Nat.le_trans hwz HG1.out.size) h) HR1.out (Below.refl _ _) (Nat.le_trans hwz HG1.out.size) (by have := HL1.out; simp; omega) ?_; intro v2 w2 hR hB hg hat; have HR2 := Aside0.mk hR; have HB2 := Aside0.mk hB; have HG2 := Aside0.mk hg; clear hR hB hg hat)
          | ((with_reducible refine gate_builtin (b := .append) (xs := #[.tmp 30, .tmp 33]) rfl ?_); at_builtin; refine Kd.R_append_row (Value.int .i64) 0 (h1 := fun _ => rfl) (w0 := w2) w.heap.size rfl (.tmp 30) (.tmp 33) 22 3 (.int .i64 0) 8 rfl Try.underlying22 info3 rfl (by omega) v2 ([] ++ ys ++ [x]) zs A' zs.length (c - m) (fun x => w.heap.size ≤ x) rfl rfl (fun _ h => Nat.le_trans (Nat.le_trans (Nat.le_trans hwz HG1.out.size) HB2.out.size) h) HR2.out (Kd.C_below HC2.out ((HB.out.trans (HG1.out.mono hwz)).trans HB2.out)) (Below.refl _ _) (Nat.le_trans (Nat.le_trans hwz HG1.out.size) HB2.out.size) (by have := HL1.out; have := HL2.out; simp; omega) ?_; intro v3 w3 hR hB hg hat; have HR3 := Aside0.mk hR; have HB3 := Aside0.mk hB; clear hR hB hg hat))
        go_ret
        exact ⟨v3, rfl, by rw [← HSP.out]; exact HR3.out, ((HB.out.trans (HG1.out.mono hwz)).trans HB2.out).trans HB3.out⟩
    · have hstop : m = l.length ∨ x < rd l m := Or.inl (by omega)
      have HSP : Aside0 (l.take m ++ [x] ++ l.drop m = insL x l) := ⟨insL_split m l x hm hle hstop⟩
      obtain ⟨i0, hi0, _, hsz, _⟩ := info_parts info3
      obtain ⟨hcut, hA, _⟩ := print_take_of (P := Try.prog) (Value.int .i64) 0 22 3 .i64 Try.underlying22 hi0 hsz A c l (m : Int) (by omega) (by omega) HC0.out
      obtain ⟨A', hcut2, hA2, _⟩ := print_drop_of (P := Try.prog) (Value.int .i64) 0 22 3 .i64 Try.underlying22 hi0 hsz A c l (m : Int) (by omega) (by omega) HC0.out
      rw [Int.toNat_natCast] at hcut hA hcut2 hA2
      have HC1 := Aside0.mk (Kd.C_of_reads (h1 := fun _ => rfl) (hA wr (Kd.reads_of_C (Kd.C_below HR0.out HB.out))))
      have HC2 := Aside0.mk (Kd.C_of_reads (h1 := fun _ => rfl) (hA2 w (Kd.reads_of_C HR0.out)))
      have HL1 : Aside0 ((l.take m).length ≤ 1000) := ⟨by rw [List.length_take]; have := HL.out; omega⟩
      have HL2 : Aside0 ((l.drop m).length ≤ 1000) := ⟨by rw [List.length_drop]; have := HL.out; omega⟩
      have hwz := HB.out.size
      clear hA hA2 hi0 hsz hstop
      generalize l.take m = ys at *
      generalize l.drop m = zs at *
      go_wp2_with (first
        | ((with_reducible refine gate_builtin (b := .append) (xs := #[.tmp 21, .tmp 24]) rfl ?_); at_builtin; refine Kd.R_append_row (Value.int .i64) 0 (h1 := fun _ => rfl) (w0 := wr) w.heap.size rfl (.tmp 21) (.tmp 24) 22 3 (.int .i64 0) 8 rfl Try.underlying22 info3 rfl (by omega) (.slice none 0 0) ([] : List Int) ys A ys.length c (fun x => w.heap.size ≤ x) rfl rfl (fun _ h => Nat.le_trans hwz h) (Kd.R_nil _ _ _ _ _) HC1.out (Below.refl _ _) hwz (by have := HL1.out; simp; omega) ?_; intro v1 w1 hR hB hg hat; have HR1 := Aside0.mk hR; have HB1 := Aside0.mk hB; have HG1 : Aside0 (Below wr.heap.size wr w1) := ⟨below_of_grown hg⟩; clear hR hB hg hat)
        | ((with_reducible refine gate_builtin (b := .append) (xs := #[.tmp 26, .tmp 28]) rfl ?_); at_builtin; refine Kd.R_append (Kd.int .i64) (w0 := w1) (W := w1) w.heap.size rfl (.tmp 26) (.tmp 28) 22 3 (.int .i64 0) 8 rfl Try.underlying22 info3 rfl (by decide) (by omega) v1 ([] ++ ys) x [.int .i64 x] (fun x => w.heap.size ≤ x) (fun _ => False) rfl rfl rfl (fun _ h => h.elim) (fun _ h => Nat.le_trans (Nat.le_trans hwz HG1.out.size) h) HR1.out (Below.refl _ _) (Nat.le_trans hwz HG1.out.size) (by have := HL1.out; simp; omega) ?_; intro v2 w2 hR hB hg hat; have HR2 := Aside0.mk hR; have HB2 := Aside0.mk hB; have HG2 := Aside0.mk hg; clear hR hB hg hat)
        | ((with_reducible refine gate_builtin (b := .append) (xs := #[.tmp 30, .tmp 33]) rfl ?_); at_builtin; refine Kd.R_append_row (Value.int .i64) 0 (h1 := fun _ => rfl) (w0 := w2) w.heap.size rfl (.tmp 30) (.tmp 33) 22 3 (.int .i64 0) 8 rfl Try.underlying22 info3 rfl (by omega) v2 ([] ++ ys ++ [x]) zs A' zs.length (c - m) (fun x => w.heap.size ≤ x) rfl rfl (fun _ h => Nat.le_trans (Nat.le_trans (Nat.le_trans hwz HG1.out.size) HB2.out.size) h) HR2.out (Kd.C_below HC2.out ((HB.out.trans (HG1.out.mono hwz)).trans HB2.out)) (Below.refl _ _) (Nat.le_trans (Nat.le_trans hwz HG1.out.size) HB2.out.size) (by have := HL1.out; have := HL2.out; simp; omega) ?_; intro v3 w3 hR hB hg hat; have HR3 := Aside0.mk hR; have HB3 := Aside0.mk hB; clear hR hB hg hat))
      go_ret
      exact ⟨v3, rfl, by rw [← HSP.out]; exact HR3.out, ((HB.out.trans (HG1.out.mono hwz)).trans HB2.out).trans HB3.out⟩
end Go.Proofs.Ythadaajgjloogaa.L

namespace Go.Proofs.Ythadaajgjloogaa.L
open Go.RowKit Go.Shelf Go.Proofs.YthadaajgjloogaaW.PrintWords Go.Proofs.YthadaajgjloogaaW.PrintLast Go.Proofs.YthadaajgjloogaaW.PrintMore
attribute [local go_sem] max2_int min2_int max_two min_two max_three min_three max_four min_four
attribute [local go_sem] Oper.semAt_some

/-! ### the reference's Moved (85) -/
def mvJ (l : List Int) (k : Int) : Nat → List Int
  | 0 => []
  | j + 1 => if (j : Int) ≠ k then insL (rd l j) (mvJ l k j) else mvJ l k j
def mvF (l : List Int) (k x : Int) : List Int := insL x (mvJ l k l.length)
theorem mvJ_len (l : List Int) (k : Int) : ∀ j, (mvJ l k j).length ≤ j
  | 0 => by simp [mvJ]
  | j + 1 => by
    have ih := mvJ_len l k j
    unfold mvJ
    split
    · rw [(insL_perm _ _).length_eq, List.length_cons]; omega
    · omega
theorem mvJ_sorted (l : List Int) (k : Int) : ∀ j, (mvJ l k j).Pairwise (· ≤ ·)
  | 0 => List.Pairwise.nil
  | j + 1 => by
    have ih := mvJ_sorted l k j
    unfold mvJ
    split
    · exact insL_sorted _ _ ih
    · exact ih
theorem take_snocR (l : List Int) (j : Nat) (h : j < l.length) : l.take (j + 1) = l.take j ++ [rd l j] := by
  rw [List.take_succ_eq_append_getElem h]
  simp [rd, List.getD, h]
theorem mvJ_perm (l : List Int) (k : Nat) : ∀ j, j ≤ l.length → if j ≤ k then (mvJ l k j).Perm (l.take j) else (rd l k :: mvJ l k j).Perm (l.take j)
  | 0, _ => by simp [mvJ]
  | j + 1, h => by
    have ih := mvJ_perm l k j (by omega)
    rw [take_snocR l j (by omega)]
    by_cases h1 : j + 1 ≤ k
    · rw [if_pos h1]
      rw [if_pos (by omega)] at ih
      unfold mvJ
      rw [if_pos (by omega)]
      refine (insL_perm _ _).trans ?_
      exact (ih.cons _).trans (List.perm_append_singleton _ _).symm
    · rw [if_neg h1]
      by_cases h2 : j = k
      · subst h2
        rw [if_pos (Nat.le_refl _)] at ih
        unfold mvJ
        rw [if_neg (by omega)]
        exact (ih.cons _).trans (List.perm_append_singleton _ _).symm
      · rw [if_neg (by omega)] at ih
        unfold mvJ
        rw [if_pos (by omega)]
        refine (((insL_perm _ _).cons _).trans (List.Perm.swap _ _ _)).trans ?_
        exact (ih.cons _).trans (List.perm_append_singleton _ _).symm
theorem set_perm : ∀ (l : List Int) (k : Nat) (x : Int), k < l.length → (rd l k :: l.set k x).Perm (x :: l)
  | [], k, x, h => by simp at h
  | y :: r, 0, x, _ => by simp only [List.set_cons_zero]; rw [show rd (y :: r) ((0 : Nat) : Int) = y from rd_zero y r]; exact List.Perm.swap _ _ _
  | y :: r, k + 1, x, h => by
    have ih := set_perm r k x (by simpa using h)
    rw [rd_cons, List.set_cons_succ]
    exact (List.Perm.swap _ _ _).trans ((ih.cons y).trans (List.Perm.swap _ _ _))
theorem mvF_srt {l : List Int} {k : Nat} (h : k < l.length) (x : Int) : mvF l k x = srt (l.set k x) := by
  refine List.Perm.eq_of_pairwise (le := fun a b : Int => a ≤ b) (fun a b _ _ h3 h4 => by omega) (insL_sorted x _ (mvJ_sorted l k _)) (srt_sorted _) ?_
  have h1 := mvJ_perm l k l.length (Nat.le_refl _)
  rw [if_neg (by omega), List.take_length] at h1
  have h2 := set_perm l k x h
  refine (insL_perm x _).trans ?_
  refine List.Perm.trans ?_ (List.mergeSort_perm _ _).symm
  refine (List.perm_cons (rd l k)).1 ?_
  exact ((List.Perm.swap _ _ _).trans (h1.cons x)).trans h2.symm

set_option maxRecDepth 100000 in
set_option maxHeartbeats 4000000 in
theorem refMoved_calls (A : Option Addr) (c : Nat) (l : List Int) (k x : Int) (w : World) (hr : Kd.C (Kd.int .i64) w A l.length l) (hl : l.length ≤ 100) :
    Calls Try.prog 85 #[.slice A l.length c, .int .i64 k, .int .i64 x] w fun e w' => ∃ v, e = .returned v ∧ Kd.R (Kd.int .i64) 3 w' w.heap.size (fun x => w.heap.size ≤ x) v (mvF l k x) ∧ Below w.heap.size w w' := by
  have HR0 := Aside0.mk hr
  have HL := Aside0.mk hl
  have hmx := Kd.C_max hr
  clear hr hl
  go_enter Try.func85, Try.ntmps85
  go_wp2
  go_loopw [7, 8] (fun v7 v8 wr => ∃ j : Nat, j ≤ l.length ∧ v8 = .int .i64 j ∧ Aside0 (Kd.R (Kd.int .i64) 3 wr w.heap.size (fun x => w.heap.size ≤ x) v7 (mvJ l k j)) ∧ Aside0 (Below w.heap.size w wr)) (fun _ v8 _ => l.length - (intOf v8).toNat)
  case atStart => exact ⟨0, Nat.zero_le _, rfl, ⟨Kd.R_nil _ _ _ _ _⟩, ⟨Below.refl _ _⟩⟩
  case round =>
    obtain ⟨j, hj, rfl, HO, HB⟩ := hrel
    obtain ⟨Ao, co, rfl, hco, hCo⟩ := Kd.R_reads HO.out
    have HCo := Aside0.mk hCo
    have HCC := Aside0.mk hco
    have HML : Aside0 ((mvJ l k j).length ≤ 1000) := ⟨by have := mvJ_len l k j; have := HL.out; omega⟩
    have hwz := HB.out.size
    clear hCo hco
    by_cases hlt : j < l.length
    · obtain ⟨ad, e', hx⟩ := Kd.at_int (Kd.C_below HR0.out HB.out) (j : Int) (by omega) (by omega)
      subst e'
      rw [Int.toNat_natCast] at hx
      by_cases hk : (j : Int) = k
      · have hk' : ((j : Int) != k) = false := by rw [hk]; simp
        have HE : Aside0 (mvJ l k (j + 1) = mvJ l k j) := ⟨by simp only [mvJ]; rw [if_neg (by omega)]⟩
        clear hk
        go_wp2
        go_roundw
        case rel => exact ⟨j + 1, by omega, by go_num, ⟨by rw [HE.out]; exact HO.out⟩, HB⟩
        case measure => simp [intOf]; omega
      · have hk' : ((j : Int) != k) = true := by rw [bne_iff_ne]; exact hk
        have HE : Aside0 (mvJ l k (j + 1) = insL (rd l j) (mvJ l k j)) := ⟨by simp only [mvJ]; rw [if_pos hk]⟩
        clear hk
        go_wp2_with ((go_at_call 106; refine (insert_calls Ao co (mvJ l k j) (rd l j) _ HCo.out HCC.out HML.out).mono ?_; rintro e W2 ⟨v2, rfl, hr2, hb2⟩; have HR2 := Aside0.mk hr2; have HB2 := Aside0.mk hb2; clear hr2 hb2))
        go_roundw
        case rel => exact ⟨j + 1, by omega, by go_num, ⟨by rw [HE.out]; exact Kd.R_mono (Kd.R_lower HR2.out hwz) (fun q hq => Nat.le_trans hwz hq)⟩, ⟨below_step HB.out HB2.out⟩⟩
        case measure => simp [intOf]; omega
    · obtain rfl : j = l.length := by omega
      go_wp2_with ((go_at_call 106; refine (insert_calls Ao co (mvJ l k l.length) x _ HCo.out HCC.out HML.out).mono ?_; rintro e W2 ⟨v2, rfl, hr2, hb2⟩; have HR2 := Aside0.mk hr2; have HB2 := Aside0.mk hb2; clear hr2 hb2))
      go_ret
      exact ⟨v2, rfl, Kd.R_mono (Kd.R_lower HR2.out hwz) (fun q hq => Nat.le_trans hwz hq), below_step HB.out HB2.out⟩
end Go.Proofs.Ythadaajgjloogaa.L

namespace Go.Proofs.Ythadaajgjloogaa.L
open Go.RowKit Go.Shelf Go.Proofs.YthadaajgjloogaaW.PrintWords Go.Proofs.YthadaajgjloogaaW.PrintLast Go.Proofs.YthadaajgjloogaaW.PrintMore
open Go.Proofs.Ythadaajgjloogaa.PLiftsWorks
attribute [local go_sem] max2_int min2_int max_two min_two max_three min_three max_four min_four
attribute [local go_sem] Oper.semAt_some

/-! ### codes, tables, First (52) -/
def codeF (p : List Int) : Int := p.foldl (fun n x => n * 31 + x) 0
theorem code_f {k : Nat} (hk : k ≤ 3) {p : List Int} (h : Pos k p) : turndownref07_Code.f 10 p = some (codeF p) := by
  have hb := h.all
  have hl := h.len
  match p, hl, hb with
  | [], _, _ => simp [turndownref07_Code.f, turndownref07_Code.l0, codeF]
  | [a], _, hb =>
    have ha := hb a (by simp)
    simp only [turndownref07_Code.f, turndownref07_Code.l0, codeF, List.length_cons, List.length_nil, List.foldl_cons, List.foldl_nil]
    simp [rd, w64]
    rw [w64 _ (by omega)]
  | [a, b], _, hb =>
    have ha := hb a (by simp)
    have hb' := hb b (by simp)
    have e0 : rd [a, b] 0 = a := rfl
    have e1 : rd [a, b] 1 = b := rfl
    unfold turndownref07_Code.f
    rw [turndownref07_Code.l0, if_pos (by simp), if_pos (by omega), e0, w64 (0 * 31) (by omega), w64 (0 * 31 + a) (by omega), w64 (0 + 1) (by omega)]
    rw [turndownref07_Code.l0, if_pos (by simp), if_pos (by omega), show (0 : Int) + 1 = 1 from rfl, e1, w64 ((0 * 31 + a) * 31) (by omega), w64 _ (by omega), w64 _ (by omega)]
    rw [turndownref07_Code.l0, if_neg (by simp)]
    rfl
  | [a, b, c], _, hb =>
    have ha := hb a (by simp)
    have hb' := hb b (by simp)
    have hc := hb c (by simp)
    have e0 : rd [a, b, c] 0 = a := rfl
    have e1 : rd [a, b, c] 1 = b := rfl
    have e2 : rd [a, b, c] 2 = c := rfl
    unfold turndownref07_Code.f
    rw [turndownref07_Code.l0, if_pos (by simp), if_pos (by omega), e0, w64 (0 * 31) (by omega), w64 (0 * 31 + a) (by omega), w64 (0 + 1) (by omega)]
    rw [turndownref07_Code.l0, if_pos (by simp), if_pos (by omega), show (0 : Int) + 1 = 1 from rfl, e1, w64 ((0 * 31 + a) * 31) (by omega), w64 ((0 * 31 + a) * 31 + b) (by omega), w64 (1 + 1) (by omega)]
    rw [turndownref07_Code.l0, if_pos (by simp), if_pos (by omega), show (1 : Int) + 1 = 2 from rfl, e2, w64 (((0 * 31 + a) * 31 + b) * 31) (by omega), w64 _ (by omega), w64 _ (by omega)]
    rw [turndownref07_Code.l0, if_neg (by simp)]
    rfl
  | _ :: _ :: _ :: _ :: _, hl, _ => simp at hl; omega
theorem codeRef_calls {k : Nat} (hk : k ≤ 3) (A : Option Addr) (c : Nat) (p : List Int) (w : World) (hr : Kd.C (Kd.int .i64) w A p.length p) (hc : p.length ≤ c) (h : Pos k p) :
    Calls Try.prog 20 #[.slice A p.length c] w fun e w' => e = .returned (.int .i64 (codeF p)) ∧ Drawn0 w w' := turndownref07_Code.calls 10 A c p _ w hr hc (code_f hk h)
theorem codeF_range {k : Nat} (hk : k ≤ 3) {p : List Int} (h : Pos k p) : 0 ≤ codeF p ∧ codeF p < 29791 := by
  have hb := h.all
  have hl := h.len
  match p, hl, hb with
  | [], _, _ => simp [codeF]
  | [a], _, hb => have ha := hb a (by simp); simp only [codeF, List.foldl_cons, List.foldl_nil]; omega
  | [a, b], _, hb => have ha := hb a (by simp); have hb' := hb b (by simp); simp only [codeF, List.foldl_cons, List.foldl_nil]; omega
  | [a, b, c], _, hb => have ha := hb a (by simp); have hb' := hb b (by simp); have hc := hb c (by simp); simp only [codeF, List.foldl_cons, List.foldl_nil]; omega
  | _ :: _ :: _ :: _ :: _, hl, _ => simp at hl; omega
theorem codeF_inj {k : Nat} (hk : k ≤ 3) {p q : List Int} (hp : Pos k p) (hq : Pos k q) (h : codeF p = codeF q) : p = q := by
  have hb := hp.all
  have hl := hp.len
  have hb2 := hq.all
  have hl2 := hq.len
  match p, q, hl, hl2, hb, hb2 with
  | [], [], _, _, _, _ => rfl
  | [a], [a2], _, _, hb, hb2 =>
    have h1 := hb a (by simp); have h2 := hb2 a2 (by simp)
    simp only [codeF, List.foldl_cons, List.foldl_nil] at h
    obtain rfl : a = a2 := by omega
    rfl
  | [a, b], [a2, b2], _, _, hb, hb2 =>
    have h1 := hb a (by simp); have h2 := hb2 a2 (by simp); have h3 := hb b (by simp); have h4 := hb2 b2 (by simp)
    simp only [codeF, List.foldl_cons, List.foldl_nil] at h
    obtain rfl : a = a2 := by omega
    obtain rfl : b = b2 := by omega
    rfl
  | [a, b, c], [a2, b2, c2], _, _, hb, hb2 =>
    have h1 := hb a (by simp); have h2 := hb2 a2 (by simp); have h3 := hb b (by simp); have h4 := hb2 b2 (by simp); have h5 := hb c (by simp); have h6 := hb2 c2 (by simp)
    simp only [codeF, List.foldl_cons, List.foldl_nil] at h
    obtain rfl : a = a2 := by omega
    obtain rfl : b = b2 := by omega
    obtain rfl : c = c2 := by omega
    rfl
  | [], _ :: _, h1, h2, _, _ => simp at h1 h2; omega
  | _ :: _, [], h1, h2, _, _ => simp at h1 h2; omega
  | [_], _ :: _ :: _, h1, h2, _, _ => simp at h1 h2; omega
  | _ :: _ :: _, [_], h1, h2, _, _ => simp at h1 h2; omega
  | [_, _], _ :: _ :: _ :: _, h1, h2, _, _ => simp at h1 h2; omega
  | _ :: _ :: _ :: _, [_, _], h1, h2, _, _ => simp at h1 h2; omega
  | _ :: _ :: _ :: _ :: _, _, h1, _, _, _ => simp at h1; omega
  | _, _ :: _ :: _ :: _ :: _, _, h1, _, _ => simp at h1; omega

/-- The table has f at the codes of the first j positions. -/
structure Tab (k : Nat) (f : List Int → Int) (tab : List Int) (j : Nat) : Prop where
  len : tab.length = 29791
  at_ : ∀ i, i < j → rd tab (codeF (rL (allP k) i)) = f (rL (allP k) i)
theorem rL_allP {k i : Nat} (h : i < (allP k).length) : rL (allP k) i ∈ allP k := by rw [rL_get _ _ h]; exact List.getElem_mem h
theorem rL_inj {k i j : Nat} (hi : i < (allP k).length) (hj : j < (allP k).length) (h : rL (allP k) i = rL (allP k) j) : i = j := by
  rw [rL_get _ _ hi, rL_get _ _ hj] at h
  exact (List.getElem_inj (allP_nodup k)).1 h
theorem Tab.set {k : Nat} (hk : k ≤ 3) {f : List Int → Int} {tab : List Int} {j : Nat} (h : Tab k f tab j) (hj : j < (allP k).length) : Tab k f (tab.set (codeF (rL (allP k) j)).toNat (f (rL (allP k) j))) (j + 1) := by
  have hpj := allP_pos (rL_allP hj)
  have hcj := codeF_range hk hpj
  refine ⟨by rw [List.length_set]; exact h.len, fun i hi => ?_⟩
  have hl := h.len
  by_cases e : i = j
  · subst e
    unfold rd
    rw [List.getD_eq_getElem?_getD, List.getElem?_set_self (by omega)]; rfl
  · have hi' : i < j := by omega
    have hpi := allP_pos (rL_allP (k := k) (i := i) (by omega))
    have hci := codeF_range hk hpi
    have hne : (codeF (rL (allP k) j)).toNat ≠ (codeF (rL (allP k) i)).toNat := by
      intro e2
      have := codeF_inj hk hpj hpi (by omega)
      exact e (rL_inj (by omega) hj this.symm)
    have := h.at_ i hi'
    unfold rd at this ⊢
    rw [List.getD_eq_getElem?_getD, List.getElem?_set_ne hne, ← List.getD_eq_getElem?_getD]
    exact this
theorem Tab.all {k : Nat} {f : List Int → Int} {tab : List Int} (h : Tab k f tab (allP k).length) {p : List Int} (hp : p ∈ allP k) : rd tab (codeF p) = f p := by
  obtain ⟨i, hi, rfl⟩ := List.mem_iff_getElem.1 hp
  have := h.at_ i hi
  rwa [rL_get _ _ hi] at this
end Go.Proofs.Ythadaajgjloogaa.L

namespace Go.Proofs.Ythadaajgjloogaa.L
open Go.RowKit Go.Shelf Go.Proofs.YthadaajgjloogaaW.PrintWords Go.Proofs.YthadaajgjloogaaW.PrintLast Go.Proofs.YthadaajgjloogaaW.PrintMore
open Go.Proofs.Ythadaajgjloogaa.PLiftsWorks
attribute [local go_sem] max2_int min2_int max_two min_two max_three min_three max_four min_four
attribute [local go_sem] Oper.semAt_some

/-! ### First (52) -/
set_option maxRecDepth 100000 in
set_option maxHeartbeats 4000000 in
theorem refFirst_calls (k : Nat) (s : List Int) (A B : Option Addr) (ca cb : Nat) (w : World) (hk3 : k ≤ 3) (hs : Pos k s) (hall : Kd.C (Kd.slice 3 (Kd.int .i64)) w A (allP k).length (allP k)) (hq : Kd.C (Kd.int .i64) w B s.length s) (hcb : s.length ≤ cb) :
    Calls Try.prog 52 #[.slice A (allP k).length ca, .slice B s.length cb] w fun e w' => ∃ v tab, e = .returned v ∧ Kd.R (Kd.int .i64) 3 w' w.heap.size (fun x => w.heap.size ≤ x) v tab ∧ Tab k (distF s) tab (allP k).length ∧ Below w.heap.size w w' := by
  have HA := Aside0.mk hall
  have HQ := Aside0.mk hq
  have HCB := Aside0.mk hcb
  have HS := Aside0.mk hs
  have hmx := Kd.C_max hall
  clear hall hq hcb hs
  generalize hn : (allP k).length = n at *
  have HN := Aside0.mk hn
  clear hn
  go_enter Try.func52, Try.ntmps52
  go_wp2_with ((with_reducible refine gate_dst (N := 8) rfl ?_); refine Kd.R_make (Kd.int .i64) (w0 := w) w.heap.size 3 rfl (N := 8) rfl 22 _ _ rfl 29791 rfl rfl Try.underlying22 (.int .i64 0) 8 info3 rfl (by decide) (by omega) 0 (ok := fun x => w.heap.size ≤ x) (okp := fun _ => False) rfl (fun _ h => h.elim) (Nat.le_refl _) (by omega) (by omega) (Below.refl _ _) (Nat.le_refl _) ?_; intro v1 w1 hR hB hg hat; obtain ⟨tab0, ht0, hR0⟩ : ∃ tab : List Int, tab.length = 29791 ∧ Kd.R (Kd.int .i64) 3 w1 w.heap.size (fun x => w.heap.size ≤ x) v1 tab := ⟨_, List.length_replicate, hR⟩; have HR0 := Aside0.mk hR0; have HB0 := Aside0.mk hB; have HT0 := Aside0.mk ht0; clear hR hB hg hat hR0 ht0)
  obtain ⟨g, cap, e1, hg1, _, _⟩ := Kd.R_form HR0.out (by rw [HT0.out]; omega)
  rw [HT0.out] at e1
  subst e1
  have HG := Aside0.mk hg1
  clear hg1
  go_loopw [6, 7] (fun v6 _ wr => ∃ (j : Nat) (tab : List Int), j ≤ n ∧ v6 = .int .i64 j ∧ Aside0 (Kd.R (Kd.int .i64) 3 wr w.heap.size (fun x => w.heap.size ≤ x) (.slice (some ⟨g, 0, none⟩) 29791 cap) tab) ∧ Aside0 (Tab k (distF s) tab j) ∧ Aside0 (Below w.heap.size w wr)) (fun v6 _ _ => n - (intOf v6).toNat)
  case atStart => exact ⟨0, tab0, Nat.zero_le _, rfl, HR0, ⟨⟨HT0.out, fun i hi => by omega⟩⟩, HB0⟩
  case round =>
    clear HR0 HB0 HT0
    obtain ⟨j, tab, hj, rfl, HR, HT, HB⟩ := hrel
    by_cases hlt : j < n
    · obtain ⟨ad, A0, c0, rfl, hx, hcc, hC0⟩ := at_L1 (Kd.C_below HA.out HB.out) (j : Int) (by omega) (by omega)
      rw [Int.toNat_natCast] at hx
      have HPP : Aside0 (Pos k (rd_L1 (allP k) (j : Int))) := ⟨allP_pos (rL_allP (k := k) (i := j) (by rw [HN.out]; exact hlt))⟩
      have HCR := Aside0.mk (codeF_range hk3 HPP.out)
      have HNX := Aside0.mk (HT.out.set hk3 (by rw [HN.out]; exact hlt))
      unfold rL at HNX
      have HC0 := Aside0.mk hC0
      have HCC := Aside0.mk hcc
      clear hC0 hcc
      generalize rd_L1 (allP k) (j : Int) = p at *
      obtain ⟨q0, q1⟩ := HCR.out
      go_wp2_with (first
        | (go_at_call 20; refine (codeRef_calls hk3 A0 c0 p _ HC0.out HCC.out HPP.out).mono ?_; rintro e W2 ⟨rfl, hd⟩; have HB2 := Aside0.mk hd.below; have hx2 := ((HB2.out.cell (World.block_lt_of_cell? _ _ hx)).trans hx); clear hd)
        | (go_at_call 29; refine (distRef_calls B A0 cb c0 s p _ (Kd.C_below HQ.out (below_step HB.out HB2.out)) HCB.out (Kd.C_below HC0.out HB2.out) HCC.out HS.out.all HPP.out.all (by have := HS.out.len; have := HPP.out.len; omega) (by have := HS.out.len; omega)).mono ?_; rintro e W3 ⟨rfl, hb⟩; have HB3 := Aside0.mk (below_step HB2.out hb); have HR3 := Aside0.mk (Kd.R_below HR.out HB3.out); clear hb; obtain ⟨hcell, hfr⟩ := Kd.R_celln 0 HR3.out (codeF p) q0 q1))
      exact ⟨⟨j + 1, _, by omega, by go_num, ⟨Kd.R_putn HR3.out (codeF p) (distF s p)⟩, HNX, ⟨(below_step HB.out HB3.out).setCell (show w.heap.size ≤ g from HG.out) _⟩⟩, by simp [intOf]; omega⟩
    · obtain rfl : j = n := by omega
      go_wp2
      go_ret
      exact ⟨_, tab, rfl, HR.out, HT.out, HB.out⟩
end Go.Proofs.Ythadaajgjloogaa.L

namespace Go.Proofs.Ythadaajgjloogaa.L
open Go.RowKit Go.Shelf Go.Proofs.YthadaajgjloogaaW.PrintWords Go.Proofs.YthadaajgjloogaaW.PrintLast Go.Proofs.YthadaajgjloogaaW.PrintMore
open Go.Proofs.Ythadaajgjloogaa.PLiftsWorks
attribute [local go_sem] max2_int min2_int max_two min_two max_three min_three max_four min_four
attribute [local go_sem] Oper.semAt_some

/-! ### Next (53) -/
def nextB (f : List Int → Int) (x : Int) (p : List Int) : Nat → Int
  | 0 => -1
  | j + 1 => if nextB f x p j < 0 ∨ aftV f x p j < nextB f x p j then aftV f x p j else nextB f x p j
theorem nextB_eq {k : Nat} {f : List Int → Int} {B : Int} (hf : ∀ p ∈ allP k, 0 ≤ f p ∧ f p ≤ B) {x : Int} (hx : 0 ≤ x ∧ x ≤ 30) {p : List Int} (hp : Pos k p) : ∀ j, j < k → nextB f x p (j + 1) = aftB f x p j
  | 0, _ => by simp [nextB, aftB]
  | j + 1, h => by
    have ih := nextB_eq hf hx hp j (by omega)
    have h1 := aftB_range hf hx hp j (by omega)
    rw [nextB, ih, show aftB f x p (j + 1) = if aftV f x p (j + 1) < aftB f x p j then aftV f x p (j + 1) else aftB f x p j from rfl]
    by_cases h2 : aftV f x p (j + 1) < aftB f x p j
    · rw [if_pos (Or.inr h2), if_pos h2]
    · rw [if_neg (by omega), if_neg h2]
theorem nextB_range {k : Nat} {f : List Int → Int} {B : Int} (hB : 0 ≤ B) (hf : ∀ p ∈ allP k, 0 ≤ f p ∧ f p ≤ B) {x : Int} (hx : 0 ≤ x ∧ x ≤ 30) {p : List Int} (hp : Pos k p) : ∀ j, j ≤ k → -1 ≤ nextB f x p j ∧ nextB f x p j ≤ B + 30
  | 0, _ => by simp [nextB]; omega
  | j + 1, h => by rw [nextB_eq hf hx hp j (by omega)]; have := aftB_range hf hx hp j (by omega); omega
theorem aftV_mv {k : Nat} (f : List Int → Int) (x : Int) {p : List Int} (hp : Pos k p) {j : Nat} (hj : j < k) : aftV f x p j = f (mvF p j x) + ab (rd p j) x := by unfold aftV; rw [mvF_srt (by rw [hp.len]; exact hj)]

set_option maxRecDepth 100000 in
set_option maxHeartbeats 8000000 in
theorem refNext_calls (k : Nat) (f : List Int → Int) (Bd : Int) (tab : List Int) (x : Int) (A B : Option Addr) (ca cb : Nat) (w : World) (hk1 : 1 ≤ k) (hk3 : k ≤ 3) (hall : Kd.C (Kd.slice 3 (Kd.int .i64)) w A (allP k).length (allP k)) (hq : Kd.C (Kd.int .i64) w B tab.length tab)
    (ht : Tab k f tab (allP k).length) (hf : ∀ p ∈ allP k, 0 ≤ f p ∧ f p ≤ Bd) (hBd : 0 ≤ Bd ∧ Bd ≤ 1000000) (hx : 0 ≤ x ∧ x ≤ 30) :
    Calls Try.prog 53 #[.slice A (allP k).length ca, .slice B tab.length cb, .int .i64 x] w fun e w' => ∃ v tab', e = .returned v ∧ Kd.R (Kd.int .i64) 3 w' w.heap.size (fun x => w.heap.size ≤ x) v tab' ∧ Tab k (aftF k f x) tab' (allP k).length ∧ Below w.heap.size w w' := by
  have HA := Aside0.mk hall
  have HQ := Aside0.mk hq
  have HTB := Aside0.mk ht
  have HF := Aside0.mk hf
  have HX := Aside0.mk hx
  have HBD := Aside0.mk hBd
  have hmx := Kd.C_max hall
  have htl := ht.len
  clear hall hq ht hf hBd
  obtain ⟨x0, x1⟩ := hx
  rw [htl] at HQ ⊢
  generalize hn : (allP k).length = n at *
  have HN := Aside0.mk hn
  clear hn htl
  obtain ⟨aw0, ew0, _⟩ := Kd.at_int HQ.out 0 (by omega) (by omega)
  subst ew0
  go_enter Try.func53, Try.ntmps53
  go_wp2_with ((with_reducible refine gate_dst (N := 16) rfl ?_); refine Kd.R_make (Kd.int .i64) (w0 := w) w.heap.size 3 rfl (N := 16) rfl 22 _ _ rfl 29791 rfl rfl Try.underlying22 (.int .i64 0) 8 info3 rfl (by decide) (by omega) 0 (ok := fun x => w.heap.size ≤ x) (okp := fun _ => False) rfl (fun _ h => h.elim) (Nat.le_refl _) (by omega) (by omega) (Below.refl _ _) (Nat.le_refl _) ?_; intro v1 w1 hR hB hg hat; obtain ⟨tab0, ht0, hR0⟩ : ∃ tab : List Int, tab.length = 29791 ∧ Kd.R (Kd.int .i64) 3 w1 w.heap.size (fun x => w.heap.size ≤ x) v1 tab := ⟨_, List.length_replicate, hR⟩; have HR0 := Aside0.mk hR0; have HB0 := Aside0.mk hB; have HT0 := Aside0.mk ht0; clear hR hB hg hat hR0 ht0)
  obtain ⟨g, cap, e1, hg1, _, _⟩ := Kd.R_form HR0.out (by rw [HT0.out]; omega)
  rw [HT0.out] at e1
  subst e1
  have HG := Aside0.mk hg1
  clear hg1
  go_loopw [8, 9, 10, 11, 12, 13] (fun v8 _ _ _ _ _ wr => ∃ (j : Nat) (tab : List Int), j ≤ n ∧ v8 = .int .i64 j ∧ Aside0 (Kd.R (Kd.int .i64) 3 wr w.heap.size (fun x => w.heap.size ≤ x) (.slice (some ⟨g, 0, none⟩) 29791 cap) tab) ∧ Aside0 (Tab k (aftF k f x) tab j) ∧ Aside0 (Below w.heap.size w wr)) (fun v8 _ _ _ _ _ _ => n - (intOf v8).toNat)
  case atStart => exact ⟨0, tab0, Nat.zero_le _, rfl, HR0, ⟨⟨HT0.out, fun i hi => by omega⟩⟩, HB0⟩
  case round =>
    clear HR0 HB0 HT0
    obtain ⟨j, tab', hj, rfl, HR, HT, HB⟩ := hrel
    by_cases hlt : j < n
    · have HAT : Aside0 (∀ V, Below w.heap.size w V → ∃ ad A0 c0, A = some ad ∧ V.cell? (ad.add j) = some (.slice A0 (rd_L1 (allP k) (j : Int)).length c0) ∧ (rd_L1 (allP k) (j : Int)).length ≤ c0 ∧ Kd.C (Kd.int .i64) V A0 (rd_L1 (allP k) (j : Int)).length (rd_L1 (allP k) (j : Int))) := ⟨fun V hV => by
        obtain ⟨ad, A0, c0, h1, h2, h3, h4⟩ := at_L1 (Kd.C_below HA.out hV) (j : Int) (by omega) (by omega)
        rw [Int.toNat_natCast] at h2
        exact ⟨ad, A0, c0, h1, h2, h3, h4⟩⟩
      have HPA : Aside0 (rd_L1 (allP k) (j : Int) ∈ allP k) := ⟨rL_allP (k := k) (i := j) (by rw [HN.out]; exact hlt)⟩
      have HPP := Aside0.mk (allP_pos HPA.out)
      have HCR := Aside0.mk (codeF_range hk3 HPP.out)
      have HNX := Aside0.mk (HT.out.set hk3 (by rw [HN.out]; exact hlt))
      unfold rL at HNX
      obtain ⟨ad, A0, c0, rfl, hx, hcc, hC0⟩ := HAT.out wr HB.out
      have HC0 := Aside0.mk hC0
      have HCC := Aside0.mk hcc
      clear hC0 hcc HAT
      generalize rd_L1 (allP k) (j : Int) = p at *
      have HCELL := Aside0.mk hx
      have hpl := HPP.out.len
      rw [hpl] at hx HCELL HC0 HCC
      go_wp2
      clear hx
      obtain ⟨Wo, rfl⟩ : ∃ Wo, Wo = wr := ⟨wr, rfl⟩
      go_loopw [9, 10, 11, 12] (fun v9 v10 _ _ U => ∃ i : Nat, i ≤ k ∧ v10 = .int .i64 i ∧ v9 = .int .i64 (nextB f x p i) ∧ Aside0 (Below Wo.heap.size Wo U)) (fun _ v10 _ _ _ => k - (intOf v10).toNat)
      case atStart => exact ⟨0, Nat.zero_le _, rfl, rfl, ⟨Below.refl _ _⟩⟩
      case round =>
        obtain ⟨i, hi, rfl, rfl, HU⟩ := hrel
        have hx := (HU.out.cell (World.block_lt_of_cell? _ _ HCELL.out)).trans HCELL.out
        by_cases hik : i < k
        · obtain ⟨ai, ei, hpi⟩ := Kd.at_int (Kd.C_below HC0.out HU.out) (i : Int) (by omega) (by omega)
          subst ei
          rw [Int.toNat_natCast] at hpi
          have hp0 := HPP.out.all (rd p i) (rd_mem (by rw [hpl]; exact hik))
          have HMV : Aside0 (∀ V, Kd.C (Kd.int .i64) V (some ai) k p → Calls Try.prog 85 #[.slice (some ai) k c0, .int .i64 i, .int .i64 x] V fun e w' => ∃ v, e = .returned v ∧ Kd.R (Kd.int .i64) 3 w' V.heap.size (fun x => V.heap.size ≤ x) v (mvF p i x) ∧ Below V.heap.size V w') := ⟨fun V h => by
            have h1 := refMoved_calls (some ai) c0 p i x V (by rw [hpl]; exact h) (by omega)
            rw [hpl] at h1
            exact h1⟩
          have HMA : Aside0 (mvF p i x ∈ allP k) := ⟨by rw [mvF_srt (by rw [hpl]; exact hik)]; exact srt_allP (pos_set HPP.out i HX.out)⟩
          have HMP := Aside0.mk (allP_pos HMA.out)
          have HMC := Aside0.mk (codeF_range hk3 HMP.out)
          have HMT := Aside0.mk ((show Tab k f tab (allP k).length by rw [HN.out]; exact HTB.out).all HMA.out)
          have HV : Aside0 (aftV f x p i = f (mvF p i x) + ab (rd p i) x) := ⟨aftV_mv f x HPP.out hik⟩
          have HFQ := HF.out _ HMA.out
          have hab0 := ab_r30 hp0 HX.out
          have hNB := nextB_range HBD.out.1 HF.out HX.out HPP.out i hi
          have HNS : Aside0 (nextB f x p (i + 1) = if nextB f x p i < 0 ∨ aftV f x p i < nextB f x p i then aftV f x p i else nextB f x p i) := ⟨rfl⟩
          have hbd := HBD.out
          have hmxab : (if rd p i - x < x - rd p i then x - rd p i else rd p i - x) = ab (rd p i) x := by unfold ab; split <;> split <;> omega
          have hwr : IntKind.i64.wrap (f (mvF p i x) + ab (rd p i) x) = f (mvF p i x) + ab (rd p i) x := IntWalk.i64_in _ (by omega)
          rw [HV.out] at HNS
          go_upto_region 11 with (first
            | (go_at_call 85; refine (HMV.out _ (Kd.C_below HC0.out HU.out)).mono ?_; rintro e W2 ⟨v2, rfl, hr2, hb2⟩; have HB2 := Aside0.mk hb2; obtain ⟨Am, cm, rfl, hcm, hCm⟩ := Kd.R_reads hr2; have HCm := Aside0.mk hCm; have HCM := Aside0.mk hcm; clear hr2 hb2 hCm hcm)
            | (go_at_call 20; refine (codeRef_calls hk3 Am cm (mvF p i x) _ HCm.out HCM.out HMP.out).mono ?_; rintro e W3 ⟨rfl, hd⟩; have HB3 : Aside0 (Below Wo.heap.size Wo W3) := ⟨below_step (below_step HU.out HB2.out) hd.below⟩; clear hd; obtain ⟨aw, ew, hy⟩ := Kd.at_int (Kd.C_below HQ.out (below_step HB.out HB3.out)) (codeF (mvF p i x)) HMC.out.1 (by have := HMC.out.2; omega); (obtain rfl := Option.some.inj ew); rw [HMT.out] at hy; obtain ⟨m0, m1⟩ := HMC.out))
          clear hx hpi hy hwr hmxab m0 m1
          generalize f (mvF p i x) + ab (rd p i) x = V at *
          generalize nextB f x p i = NB at *
          by_cases hn : NB < 0
          · have hn' := decide_eq_true hn
            have HNE : Aside0 (nextB f x p (i + 1) = V) := ⟨by rw [HNS.out, if_pos (Or.inl hn)]⟩
            clear hn
            go_wp2
            go_roundw
            case rel => exact ⟨i + 1, by omega, by go_num, by rw [HNE.out], HB3⟩
            case measure => simp [intOf]; omega
          · have hn' := decide_eq_false hn
            by_cases hl : V < NB
            · have hl' := decide_eq_true hl
              have HNE : Aside0 (nextB f x p (i + 1) = V) := ⟨by rw [HNS.out, if_pos (Or.inr hl)]⟩
              clear hn hl
              go_wp2
              go_roundw
              case rel => exact ⟨i + 1, by omega, by go_num, by rw [HNE.out], HB3⟩
              case measure => simp [intOf]; omega
            · have hl' := decide_eq_false hl
              have HNE : Aside0 (nextB f x p (i + 1) = NB) := ⟨by rw [HNS.out, if_neg (by omega)]⟩
              clear hn hl
              go_wp2
              go_roundw
              case rel => exact ⟨i + 1, by omega, by go_num, by rw [HNE.out], HB3⟩
              case measure => simp [intOf]; omega
        · obtain rfl : i = k := by omega
          have HNF : Aside0 (nextB f x p i = aftF i f x p) := ⟨by
            have h1 := nextB_eq HF.out HX.out HPP.out (i - 1) (by omega)
            rw [show i - 1 + 1 = i by omega] at h1
            exact h1⟩
          rw [HNF.out]
          have HCD : Aside0 (∀ V, Kd.C (Kd.int .i64) V A0 i p → Calls Try.prog 20 #[.slice A0 i c0] V fun e w' => e = .returned (.int .i64 (codeF p)) ∧ Drawn0 V w') := ⟨fun V h => by
            have h1 := codeRef_calls hk3 A0 c0 p V (by rw [hpl]; exact h) (by rw [hpl]; exact HCC.out) HPP.out
            rw [hpl] at h1
            exact h1⟩
          obtain ⟨q0, q1⟩ := HCR.out
          go_wp2_with (go_at_call 20; refine (HCD.out _ (Kd.C_below HC0.out HU.out)).mono ?_; rintro e W5 ⟨rfl, hd⟩; have HB5 : Aside0 (Below Wo.heap.size Wo W5) := ⟨below_step HU.out hd.below⟩; have HR5 := Aside0.mk (Kd.R_below HR.out HB5.out); clear hd; obtain ⟨hcell, hfr⟩ := Kd.R_celln 0 HR5.out (codeF p) q0 q1)
          exact ⟨⟨j + 1, _, by omega, by go_num, ⟨Kd.R_putn HR5.out (codeF p) (aftF i f x p)⟩, HNX, ⟨(below_step HB.out HB5.out).setCell (show w.heap.size ≤ g from HG.out) _⟩⟩, by simp [intOf]; omega⟩
    · obtain rfl : j = n := by omega
      go_wp2
      go_ret
      exact ⟨_, tab', rfl, HR.out, HT.out, HB.out⟩
end Go.Proofs.Ythadaajgjloogaa.L

namespace Go.Proofs.Ythadaajgjloogaa.L
open Go.RowKit Go.Shelf Go.Proofs.YthadaajgjloogaaW.PrintWords Go.Proofs.YthadaajgjloogaaW.PrintLast Go.Proofs.YthadaajgjloogaaW.PrintMore
open Go.Proofs.Ythadaajgjloogaa.PLiftsWorks
attribute [local go_sem] max2_int min2_int max_two min_two max_three min_three max_four min_four
attribute [local go_sem] Oper.semAt_some

/-! ### Works (18) -/
set_option maxRecDepth 100000 in
set_option maxHeartbeats 4000000 in
theorem refWorks_calls (s c : List Int) (A B D : Option Addr) (ca cb cd : Nat) (w : World) (hh : hallB s c = true) (hall : Kd.C (Kd.slice 3 (Kd.int .i64)) w A (allP s.length).length (allP s.length)) (hs : Kd.C (Kd.int .i64) w B s.length s) (hcb : s.length ≤ cb) (hc : Kd.C (Kd.int .i64) w D c.length c) :
    Calls Try.prog 18 #[.slice A (allP s.length).length ca, .slice B s.length cb, .slice D c.length cd] w fun e w' => ∃ v tab, e = .returned v ∧ Kd.R (Kd.int .i64) 3 w' w.heap.size (fun x => w.heap.size ≤ x) v tab ∧ Tab s.length (workAt s c c.length) tab (allP s.length).length ∧ Below w.heap.size w w' := by
  have HA := Aside0.mk hall
  have HS := Aside0.mk hs
  have HC := Aside0.mk hc
  have HCB := Aside0.mk hcb
  have hmx := Kd.C_max hc
  obtain ⟨⟨hpos, hk1, hk3⟩, h40, hcs⟩ := hallB_parts hh
  have HCS := Aside0.mk hcs
  have HPO := Aside0.mk hpos
  clear hh hall hs hc hcb hcs hpos
  go_enter Try.func18, Try.ntmps18
  go_upto_region 2 with (go_at_call 52; refine (refFirst_calls s.length s A B ca cb _ hk3 HPO.out HA.out HS.out HCB.out).mono ?_; rintro e W ⟨v, tab0, rfl, hr, ht, hb⟩; have HR := Aside0.mk hr; have HT : Aside0 (Tab s.length (workAt s c 0) tab0 (allP s.length).length) := ⟨ht⟩; have HB := Aside0.mk hb; clear hr ht hb)
  go_wp2
  go_loopw [7, 8] (fun v7 v8 wr => ∃ (j : Nat) (tab : List Int), j ≤ c.length ∧ v8 = .int .i64 j ∧ Aside0 (Kd.R (Kd.int .i64) 3 wr w.heap.size (fun x => w.heap.size ≤ x) v7 tab) ∧ Aside0 (Tab s.length (workAt s c j) tab (allP s.length).length) ∧ Aside0 (Below w.heap.size w wr)) (fun _ v8 _ => c.length - (intOf v8).toNat)
  case atStart => exact ⟨0, tab0, Nat.zero_le _, rfl, HR, HT, HB⟩
  case round =>
    clear HR HT HB
    obtain ⟨j, tab, hj, rfl, HR, HT, HB⟩ := hrel
    by_cases hlt : j < c.length
    · obtain ⟨ad, rfl, hx⟩ := Kd.at_int (Kd.C_below HC.out HB.out) (j : Int) (by omega) (by omega)
      rw [Int.toNat_natCast] at hx
      have HX := Aside0.mk (HCS.out (rd c j) (rd_mem hlt))
      have HRW := Aside0.mk (workAt_range hk1 hk3 HPO.out HCS.out j hj)
      obtain ⟨A7, c7, rfl, _, hC7⟩ := Kd.R_reads HR.out
      have HC7 := Aside0.mk hC7
      have hwz := HB.out.size
      clear hC7
      go_wp2_with (go_at_call 53; refine (refNext_calls s.length (workAt s c j) (90 + 30 * (j : Int)) tab (rd c j) A A7 ca c7 _ hk1 hk3 (Kd.C_below HA.out HB.out) HC7.out HT.out HRW.out (by omega) HX.out).mono ?_; rintro e W2 ⟨v2, tab2, rfl, hr2, ht2, hb2⟩; have HR2 := Aside0.mk hr2; have HT2 := Aside0.mk ht2; have HB2 := Aside0.mk hb2; clear hr2 ht2 hb2)
      go_roundw
      case rel => exact ⟨j + 1, tab2, by omega, by go_num, ⟨Kd.R_mono (Kd.R_lower HR2.out hwz) (fun q hq => Nat.le_trans hwz hq)⟩, HT2, ⟨below_step HB.out HB2.out⟩⟩
      case measure => simp [intOf]; omega
    · obtain rfl : j = c.length := by omega
      go_wp2
      go_ret
      exact ⟨_, tab, rfl, HR.out, HT.out, HB.out⟩
end Go.Proofs.Ythadaajgjloogaa.L

namespace Go.Proofs.Ythadaajgjloogaa.L
open Go.RowKit Go.Shelf Go.Proofs.YthadaajgjloogaaW.PrintWords Go.Proofs.YthadaajgjloogaaW.PrintLast Go.Proofs.YthadaajgjloogaaW.PrintMore
open Go.Proofs.Ythadaajgjloogaa.PLiftsWorks

/-! ### All (19): what the printed loops tell -/
def loN (p : List Int) : Nat := (p.getLast?.getD 0).toNat
def extL (p : List Int) : List (List Int) := (List.range (31 - loN p)).map fun t => p ++ [((loN p + t : Nat) : Int)]
theorem loN_snoc (p : List Int) (f : Nat) : loN (p ++ [(f : Int)]) = f := by simp [loN]
theorem gen_snoc : ∀ (d : Nat) (p : List Int) (f : Nat), loN p = f → gen (d + 1) p f = (gen d p f).flatMap extL
  | 0, p, f, h => by
    subst h
    simp only [gen, List.flatMap_singleton, extL]
    rw [List.map_eq_flatMap]
  | d + 1, p, f, h => by
    rw [show gen (d + 1 + 1) p f = (List.range (31 - f)).flatMap fun i => gen (d + 1) (p ++ [((f + i : Nat) : Int)]) (f + i) from rfl]
    rw [show gen (d + 1) p f = (List.range (31 - f)).flatMap fun i => gen d (p ++ [((f + i : Nat) : Int)]) (f + i) from rfl]
    rw [List.flatMap_assoc]
    congr 1
    funext i
    exact gen_snoc d _ _ (loN_snoc _ _)
theorem allP_snoc (i : Nat) : allP (i + 1) = (allP i).flatMap extL := gen_snoc i [] 0 rfl

theorem all_l2 (K : Int) (x3 : List (List Int)) (x4 x6 : Int) (r : List (List Int)) (h6 : 0 ≤ x6 ∧ x6 < (x3.length : Int)) (hx3 : x3.length ≤ 1000000) (hp : (rd_L1 x3 x6).length ≤ 100) : ∀ (d x8 : Nat) (x5 : List (List Int)), x8 + d = 31 → x5.length + d ≤ 1000000 →
    (∃ k, turndownref07_All.l1 k K x3 x4 (x5 ++ (List.range d).map fun t => rd_L1 x3 x6 ++ [((x8 + t : Nat) : Int)]) (x6 + 1) = some r) → ∃ k, turndownref07_All.l2 k K x3 x4 x5 x6 x8 = some r
  | 0, x8, x5, h, _, ⟨k, hk⟩ => ⟨k + 1, by
    rw [turndownref07_All.l2, if_neg (by omega), w64 _ (by omega)]
    simpa using hk⟩
  | d + 1, x8, x5, h, hl, hk => by
    obtain ⟨k, hk2⟩ := all_l2 K x3 x4 x6 r h6 hx3 hp d (x8 + 1) (x5 ++ [rd_L1 x3 x6 ++ [(x8 : Int)]]) (by omega) (by simp; omega) (by
      obtain ⟨k, hk⟩ := hk
      refine ⟨k, ?_⟩
      rw [List.range_succ_eq_map, List.map_cons, List.map_map] at hk
      rw [List.append_assoc, List.singleton_append]
      rw [show (fun t : Nat => rd_L1 x3 x6 ++ [((x8 + 1 + t : Nat) : Int)]) = (fun t : Nat => rd_L1 x3 x6 ++ [((x8 + t : Nat) : Int)]) ∘ Nat.succ from by funext t; simp only [Function.comp, Nat.succ_eq_add_one]; rw [show x8 + 1 + t = x8 + (t + 1) by omega]]
      exact hk)
    refine ⟨k + 1, ?_⟩
    rw [turndownref07_All.l2, if_pos (by omega), if_pos (by omega), if_pos (by omega), if_pos (by simp; omega)]
    simp only [Option.bind_some]
    rw [if_pos (by simp; omega), if_pos (by omega), w64 _ (by omega), show (x8 : Int) + 1 = ((x8 + 1 : Nat) : Int) by omega]
    simpa using hk2
theorem rd_last {p : List Int} {i : Nat} (h : p.length = i + 1) : rd p (i : Int) = p.getLast?.getD 0 := by
  unfold rd
  rw [List.getLast?_eq_getElem?, h, List.getD_eq_getElem?_getD]
  simp
theorem extL_len (p : List Int) : (extL p).length ≤ 31 := by simp [extL]
theorem all_l1 (K : Int) (i : Nat) (hi : i ≤ 10) (x3 : List (List Int)) (hx3 : x3.length ≤ 10000) (hp : ∀ p ∈ x3, Pos i p) (r : List (List Int)) : ∀ (d j : Nat) (x5 : List (List Int)), j + d = x3.length → x5.length ≤ 31 * j →
    (∃ k, turndownref07_All.l0 k K (x5 ++ (x3.drop j).flatMap extL) ((i : Int) + 1) = some r) → ∃ k, turndownref07_All.l1 k K x3 i x5 j = some r
  | 0, j, x5, h, _, ⟨k, hk⟩ => ⟨k + 1, by
    rw [turndownref07_All.l1, if_neg (by omega), w64 _ (by omega)]
    rw [List.drop_eq_nil_of_le (by omega)] at hk
    simpa using hk⟩
  | d + 1, j, x5, h, hl, hk => by
    have hj : j < x3.length := by omega
    have hpj := hp _ (List.getElem_mem hj)
    have e : rd_L1 x3 (j : Int) = x3[j] := rL_get x3 j hj
    have hlo : loN x3[j] ≤ 30 := by
      unfold loN
      cases hq : x3[j].getLast? with
      | none => simp
      | some y => have := hpj.all y (List.mem_of_getLast? hq); simp; omega
    have key : ∃ k, turndownref07_All.l2 k K x3 i x5 j ((loN x3[j] : Nat) : Int) = some r := by
      refine all_l2 K x3 i j r (by omega) (by omega) (by rw [e, hpj.len]; omega) (31 - loN x3[j]) (loN x3[j]) x5 (by omega) (by omega) ?_
      rw [e, show (j : Int) + 1 = ((j + 1 : Nat) : Int) by omega]
      refine all_l1 K i hi x3 hx3 hp r d (j + 1) _ (by omega) (by simp; omega) ?_
      rw [List.drop_eq_getElem_cons hj, List.flatMap_cons] at hk
      obtain ⟨k, hk⟩ := hk
      refine ⟨k, ?_⟩
      rw [List.append_assoc]
      exact hk
    obtain ⟨k, hk2⟩ := key
    by_cases h0 : i = 0
    · subst h0
      refine ⟨k + 2, ?_⟩
      rw [turndownref07_All.l1, if_pos (by omega), if_neg (by omega), turndownref07_All.j2]
      have : x3[j] = [] := List.length_eq_zero_iff.1 hpj.len
      rw [this] at hk2
      exact hk2
    · refine ⟨k + 2, ?_⟩
      rw [turndownref07_All.l1, if_pos (by omega), if_pos (by omega), if_pos (by omega), w64 _ (by omega), if_pos (by omega), if_pos (by rw [e, hpj.len]; omega), turndownref07_All.j2, e]
      rw [show (i : Int) - 1 = ((i - 1 : Nat) : Int) by omega, rd_last (i := i - 1) (by rw [hpj.len]; omega)]
      have h2 : x3[j].getLast?.getD 0 = ((loN x3[j] : Nat) : Int) := by
        unfold loN
        cases hq : x3[j].getLast? with
        | none => simp
        | some y => have := hpj.all y (List.mem_of_getLast? hq); simp; omega
      rw [h2]
      exact hk2
theorem allP_size : (allP 0).length = 1 ∧ (allP 1).length = 31 ∧ (allP 2).length = 496 := by decide +kernel
theorem all_f (K : Nat) (hK : K ≤ 3) : ∃ k, turndownref07_All.f k K = some (allP K) := by
  have step : ∀ i : Nat, i < K → (∃ k, turndownref07_All.l0 k K (allP (i + 1)) ((i : Int) + 1) = some (allP K)) → ∃ k, turndownref07_All.l0 k K (allP i) i = some (allP K) := by
    intro i hi hk
    have hlen : (allP i).length ≤ 10000 := by
      obtain ⟨a, b, c⟩ := allP_size
      have : i = 0 ∨ i = 1 ∨ i = 2 := by omega
      rcases this with rfl | rfl | rfl <;> omega
    obtain ⟨k, h⟩ := all_l1 K i (by omega) (allP i) hlen (fun p hp => allP_pos hp) (allP K) (allP i).length 0 [] (by omega) (by simp) (by rw [List.drop_zero, List.nil_append, ← allP_snoc]; exact hk)
    exact ⟨k + 1, by rw [turndownref07_All.l0, if_pos (by omega)]; exact h⟩
  have main : ∀ d i : Nat, i + d = K → ∃ k, turndownref07_All.l0 k K (allP i) i = some (allP K) := by
    intro d
    induction d with
    | zero => intro i hi; obtain rfl : i = K := by omega
              exact ⟨1, by rw [turndownref07_All.l0, if_neg (by omega)]⟩
    | succ d ih =>
      intro i hi
      refine step i (by omega) ?_
      obtain ⟨k, h⟩ := ih (i + 1) (by omega)
      exact ⟨k, by rw [show (i : Int) + 1 = ((i + 1 : Nat) : Int) by omega]; exact h⟩
  exact main K 0 (by omega)
theorem refAll_calls (K : Nat) (hK : K ≤ 3) (w : World) : Calls Try.prog 19 #[.int .i64 K] w fun e w' => ∃ A c, e = .returned (.slice A (allP K).length c) ∧ Kd.C (Kd.slice 3 (Kd.int .i64)) w' A (allP K).length (allP K) ∧ Below w.heap.size w w' := by
  obtain ⟨k, hk⟩ := all_f K hK
  refine (turndownref07_All.calls k K (allP K) w hk).mono ?_
  rintro e w' ⟨v, rfl, hS, hb⟩
  obtain ⟨A, c, rfl, _, hC⟩ := Kd.S_reads hS
  exact ⟨A, c, rfl, hC, hb⟩
end Go.Proofs.Ythadaajgjloogaa.L

