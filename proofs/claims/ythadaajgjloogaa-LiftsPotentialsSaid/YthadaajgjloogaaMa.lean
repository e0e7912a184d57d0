import Derived.Test.YthadaajgjloogaaLz
namespace Go.Proofs.Ythadaajgjloogaa.L
open Go.RowKit Go.Shelf Go.Proofs.YthadaajgjloogaaW.PrintWords Go.Proofs.YthadaajgjloogaaW.PrintLast Go.Proofs.YthadaajgjloogaaW.PrintMore
open Go.Proofs.Ythadaajgjloogaa.PLiftsWorks

theorem w64 (n : Int) (h : -9223372036854775808 ≤ n ∧ n ≤ 9223372036854775807) : wrap64 n = n := by rw [← IntWalk.i64_left]; exact IntWalk.i64_in n h

/-! ### Floors, Positions, Calls of the reference -/
theorem floors_l0 (l : List Int) (hl : l.length ≤ 1000) : ∀ (d i fuel : Nat), i + d = l.length → d + 1 ≤ fuel → turndownref07_Floors.l0 fuel l i = some (decide (∀ j : Nat, j < l.length → i ≤ j → 0 ≤ rd l j ∧ rd l j ≤ 30))
  | _, _, 0, _, hf => by omega
  | 0, i, fuel + 1, h, hf => by
    rw [turndownref07_Floors.l0, if_neg (by omega)]
    simp only [Option.some.injEq, Bool.true_eq, decide_eq_true_eq]
    intro j h1 h2; omega
  | d + 1, i, fuel + 1, h, hf => by
    have ih := floors_l0 l hl d (i + 1) fuel (by omega) (by omega)
    rw [turndownref07_Floors.l0, if_pos (by omega), if_pos (by omega), w64 _ (by omega), show (i : Int) + 1 = ((i + 1 : Nat) : Int) by omega, ih]
    by_cases h1 : rd l i < 0
    · rw [if_pos h1]
      simp only [Option.some.injEq, Bool.false_eq, decide_eq_false_iff_not]
      intro hall
      have := hall i (by omega) (Nat.le_refl _); omega
    · rw [if_neg h1]
      by_cases h2 : rd l i > 30
      · rw [if_pos h2]
        simp only [Option.some.injEq, Bool.false_eq, decide_eq_false_iff_not]
        intro hall
        have := hall i (by omega) (Nat.le_refl _); omega
      · rw [if_neg h2]
        simp only [Option.some.injEq, decide_eq_decide]
        constructor
        · intro hall j hj2 hj1
          rcases Nat.lt_or_ge i j with h3 | h3
          · exact hall j hj2 h3
          · obtain rfl : i = j := by omega
            omega
        · intro hall j hj2 hj1
          exact hall j hj2 (by omega)
def floorsB (l : List Int) : Bool := decide (∀ j : Nat, j < l.length → 0 ≤ j → 0 ≤ rd l j ∧ rd l j ≤ 30)
theorem floors_f (l : List Int) (hl : l.length ≤ 1000) (fuel : Nat) (hf : l.length + 1 ≤ fuel) : turndownref07_Floors.f fuel l = some (floorsB l) := floors_l0 l hl l.length 0 fuel (by omega) hf
theorem pos_l0 (l : List Int) (hl : l.length ≤ 1000) : ∀ (d i fuel : Nat), 1 ≤ i → (i + d = l.length ∨ (d = 0 ∧ l.length ≤ i)) → i ≤ 1001 → l.length + d + 2 ≤ fuel →
    turndownref07_Positions.l0 fuel l i = some (decide (∀ j : Nat, j < l.length → i ≤ j → rd l ((j : Int) - 1) ≤ rd l j) && (decide (1 ≤ l.length) && decide (l.length ≤ 3) && floorsB l))
  | _, _, 0, _, _, _, hf => by omega
  | 0, i, fuel + 1, h1, h, hi, hf => by
    rw [turndownref07_Positions.l0, if_neg (by omega), floors_f l hl fuel (by omega)]
    have ht : decide (∀ j : Nat, j < l.length → i ≤ j → rd l ((j : Int) - 1) ≤ rd l j) = true := by
      rw [decide_eq_true_eq]; intro j h1 h2; omega
    rw [ht]
    by_cases h3 : 1 ≤ l.length
    · rw [if_pos (by omega)]
      by_cases h4 : l.length ≤ 3
      · rw [if_pos (by omega)]; simp [h3, h4]
      · rw [if_neg (by omega)]; simp [h4]
    · rw [if_neg (by omega)]; simp [h3]
  | d + 1, i, fuel + 1, h1, h, hi, hf => by
    have ih := pos_l0 l hl d (i + 1) fuel (by omega) (by omega) (by omega) (by omega)
    have e : (i : Int) - 1 = ((i - 1 : Nat) : Int) := by omega
    rw [turndownref07_Positions.l0, if_pos (by omega), w64 _ (by omega), if_pos (by omega), if_pos (by omega), if_pos (by omega), w64 _ (by omega), show (i : Int) + 1 = ((i + 1 : Nat) : Int) by omega, ih]
    by_cases h2 : rd l ((i : Int) - 1) > rd l i
    · rw [if_pos h2]
      have : decide (∀ j : Nat, j < l.length → i ≤ j → rd l ((j : Int) - 1) ≤ rd l j) = false := by
        rw [decide_eq_false_iff_not]
        intro hall
        have := hall i (by omega) (Nat.le_refl _); omega
      rw [this]; simp
    · rw [if_neg h2]
      congr 2
      rw [decide_eq_decide]
      constructor
      · intro hall j hj2 hj1
        rcases Nat.lt_or_ge i j with h3 | h3
        · exact hall j hj2 h3
        · obtain rfl : i = j := by omega
          omega
      · intro hall j hj2 hj1
        exact hall j hj2 (by omega)
theorem pos_f (l : List Int) (hl : l.length ≤ 1000) : turndownref07_Positions.f 3000 l = some (posB l) := by
  have h := pos_l0 l hl (l.length - 1) 1 3000 (by omega) (by omega) (by omega) (by omega)
  refine h.trans ?_
  congr 1
  rw [Bool.eq_iff_iff, posB_iff]
  simp only [floorsB, Bool.and_eq_true, decide_eq_true_eq]
  constructor
  · rintro ⟨h1, ⟨h2, h3⟩, h4⟩
    exact ⟨⟨h2, h3⟩, fun i hi => ⟨(h4 i hi (by omega)).1, (h4 i hi (by omega)).2, fun h0 => h1 i hi h0⟩⟩
  · rintro ⟨⟨h2, h3⟩, h4⟩
    exact ⟨fun j hj h1 => (h4 j hj).2.2 h1, ⟨h2, h3⟩, fun j hj _ => ⟨(h4 j hj).1, (h4 j hj).2.1⟩⟩
theorem posRef_calls (A : Option Addr) (c : Nat) (l : List Int) (w : World) (hr : Kd.C (Kd.int .i64) w A l.length l) (hc : l.length ≤ c) (hl : l.length ≤ 1000) :
    Calls Try.prog 15 #[.slice A l.length c] w fun e w' => e = .returned (.bool (posB l)) ∧ Drawn0 w w' := turndownref07_Positions.calls 3000 A c l _ w hr hc (pos_f l hl)
theorem floorsB_iff (l : List Int) : floorsB l = true ↔ ∀ x ∈ l, 0 ≤ x ∧ x ≤ 30 := by
  simp only [floorsB, decide_eq_true_eq]
  constructor
  · intro h x hx
    obtain ⟨i, hi, rfl⟩ := List.mem_iff_getElem.1 hx
    have := h i hi (by omega)
    simpa [rd, List.getD, hi] using this
  · intro h j hj _
    exact h _ (rd_mem hj)
theorem calls_f (l : List Int) (hl : l.length ≤ 1000) : turndownref07_Calls.f 3000 l = some (callsB l) := by
  unfold turndownref07_Calls.f
  rw [floors_f l hl 3000 (by omega)]
  by_cases h : l.length ≤ 40
  · rw [if_pos (by omega)]
    simp only [Option.bind_some, Option.some.injEq]
    rw [Bool.eq_iff_iff, floorsB_iff, callsB_iff]
    exact ⟨fun h2 => ⟨h, h2⟩, fun h2 => h2.2⟩
  · rw [if_neg (by omega)]
    simp only [Option.some.injEq]
    rw [Bool.eq_iff_iff, callsB_iff]
    constructor
    · intro h2; cases h2
    · intro h2; omega
theorem callsRef_calls (A : Option Addr) (c : Nat) (l : List Int) (w : World) (hr : Kd.C (Kd.int .i64) w A l.length l) (hc : l.length ≤ c) (hl : l.length ≤ 1000) :
    Calls Try.prog 16 #[.slice A l.length c] w fun e w' => e = .returned (.bool (callsB l)) ∧ Drawn0 w w' := turndownref07_Calls.calls 3000 A c l _ w hr hc (calls_f l hl)

/-! ### Distance -/
theorem mx_ab (x y : Int) : mx (x - y) (y - x) = ab x y := by unfold mx ab; split <;> split <;> omega
theorem dist_l0 (a b : List Int) (ha : ∀ x ∈ a, 0 ≤ x ∧ x ≤ 30) (hb : ∀ x ∈ b, 0 ≤ x ∧ x ≤ 30) (hl : a.length ≤ b.length) (h1 : a.length ≤ 1000) : ∀ (d i fuel : Nat), i + d = a.length → d + 1 ≤ fuel →
    0 ≤ sumI (dl a b i) → sumI (dl a b i) ≤ 30 * i → turndownref07_Distance.l0 fuel a b (sumI (dl a b i)) i = some (sumI (dl a b a.length))
  | _, _, 0, _, hf, _, _ => by omega
  | 0, i, fuel + 1, h, hf, _, _ => by
    rw [turndownref07_Distance.l0, if_neg (by omega)]
    rw [show i = a.length by omega]
  | d + 1, i, fuel + 1, h, hf, s0, s1 => by
    have ha := ha _ (rd_mem (s := a) (i := i) (by omega))
    have hb := hb _ (rd_mem (s := b) (i := i) (by omega))
    have hab := ab_r30 ha hb
    have e : sumI (dl a b (i + 1)) = sumI (dl a b i) + ab (rd a i) (rd b i) := by rw [dl_succ, sumI_append]; simp [sumI]
    rw [turndownref07_Distance.l0, if_pos (by omega), if_pos (by omega), if_pos (by omega), w64 (rd a i - rd b i) (by omega), w64 (rd b i - rd a i) (by omega), mx_ab, w64 _ (by omega), w64 _ (by omega), ← e, show (i : Int) + 1 = ((i + 1 : Nat) : Int) by omega]
    exact dist_l0 a b ‹_› ‹_› hl h1 d (i + 1) fuel (by omega) (by omega) (by omega) (by omega)
theorem distRef_calls (A B : Option Addr) (ca cb : Nat) (a b : List Int) (w : World) (hr : Kd.C (Kd.int .i64) w A a.length a) (hca : a.length ≤ ca) (hq : Kd.C (Kd.int .i64) w B b.length b) (hcb : b.length ≤ cb)
    (ha : ∀ x ∈ a, 0 ≤ x ∧ x ≤ 30) (hb : ∀ x ∈ b, 0 ≤ x ∧ x ≤ 30) (hl : a.length ≤ b.length) (h1 : a.length ≤ 1000) :
    Calls Try.prog 29 #[.slice A a.length ca, .slice B b.length cb] w fun e w' => e = .returned (.int .i64 (distF a b)) ∧ Below w.heap.size w w' :=
  turndownref07_Distance.calls 3000 A ca a B cb b _ w hr hca hq hcb (dist_l0 a b ha hb hl h1 a.length 0 3000 (by omega) (by omega) (by simp [dl, sumI]) (by simp [dl, sumI]))
end Go.Proofs.Ythadaajgjloogaa.L
