import Derived.Test.YthadaajgjloogaaPLiftsWorksx0
namespace Go.Proofs.Ythadaajgjloogaa.L
open Go.RowKit Go.Proofs.YthadaajgjloogaaW.PrintWords Go.Proofs.YthadaajgjloogaaW.PrintLast Go.Proofs.YthadaajgjloogaaW.PrintMore
attribute [local go_sem] max2_int min2_int max_two min_two max_three min_three max_four min_four

/-! ### within (81), away (84) -/
def withinB (n lo hi : Int) : Bool := decide (lo ≤ n) && decide (n ≤ hi)
theorem within_calls (n lo hi : Int) (w : World) : Calls Try.prog 81 #[.int .i64 n, .int .i64 lo, .int .i64 hi] w fun e w' => e = .returned (.bool (withinB n lo hi)) ∧ w = w' := by
  by_cases h : lo ≤ n
  · have hb : decide (lo ≤ n) = true := decide_eq_true h
    have hw : withinB n lo hi = decide (n ≤ hi) := by simp [withinB, h]
    have HW := Aside0.mk hw
    clear h hw
    go_enter Try.func81, Try.ntmps81
    go_wp2
    go_ret
    exact ⟨by rw [HW.out]; rfl, rfl⟩
  · have hb : decide (lo ≤ n) = false := decide_eq_false h
    have hw : withinB n lo hi = false := by simp [withinB, h]
    have HW := Aside0.mk hw
    clear h hw
    go_enter Try.func81, Try.ntmps81
    go_wp2
    go_ret
    exact ⟨by rw [HW.out]; rfl, rfl⟩

/-- The distance of two floors. -/
def ab (a b : Int) : Int := if a ≤ b then b - a else a - b
theorem away_calls (a b : Int) (w : World) (ha : -1000 ≤ a ∧ a ≤ 1000) (hb : -1000 ≤ b ∧ b ≤ 1000) : Calls Try.prog 84 #[.int .i64 a, .int .i64 b] w fun e w' => e = .returned (.int .i64 (ab a b)) ∧ w = w' := by
  obtain ⟨h1, h2⟩ := ha
  obtain ⟨h3, h4⟩ := hb
  have HW : Aside0 ((if a - b < b - a then b - a else a - b) = ab a b) := ⟨by unfold ab; split <;> split <;> omega⟩
  go_enter Try.func84, Try.ntmps84
  go_wp2
  all_goals
    go_ret
    exact ⟨by rw [← HW.out]; first | rfl | (rw [if_pos (by omega)]; rfl) | (rw [if_neg (by omega)]; rfl), rfl⟩

theorem bad_calls (n : Int) (w : World) : Calls Try.prog 80 #[.int .i64 n] w fun e w' => e = .returned (.bool (!withinB n 0 30)) ∧ w = w' := by
  go_enter Try.func80, Try.ntmps80
  go_wp2_with (go_at_call 81; refine (within_calls _ _ _ _).mono ?_; rintro e w' ⟨rfl, rfl⟩)
  go_ret
  exact ⟨rfl, rfl⟩

/-! ### total (58) -/
def sumI : List Int → Int
  | [] => 0
  | x :: r => x + sumI r
theorem sumI_append (a b : List Int) : sumI (a ++ b) = sumI a + sumI b := by
  induction a with
  | nil => simp [sumI]
  | cons x r ih => simp [sumI, ih]; omega
theorem sumI_bound (B : Int) (h0 : 0 ≤ B) : ∀ l : List Int, (∀ x ∈ l, -B ≤ x ∧ x ≤ B) → -(B * l.length) ≤ sumI l ∧ sumI l ≤ B * l.length
  | [], _ => by simp [sumI]
  | x :: r, h => by
    have h1 := h x (by simp)
    have h2 := sumI_bound B h0 r (fun y hy => h y (by simp [hy]))
    simp only [sumI, List.length_cons]
    have : B * ((r.length + 1 : Nat) : Int) = B * (r.length : Int) + B := by rw [Int.natCast_add, Int.mul_add]; simp
    omega
theorem take_snoc (l : List Int) (k : Nat) (h : k < l.length) : l.take (k + 1) = l.take k ++ [rd l k] := by
  rw [List.take_succ_eq_append_getElem h]; simp [rd, List.getD, h]
theorem total_calls (A : Option Addr) (c : Nat) (l : List Int) (w : World) (hr : Kd.C (Kd.int .i64) w A l.length l) (hc : l.length ≤ c) (hl : l.length ≤ 1000) (hb : ∀ x ∈ l, -1000000000 ≤ x ∧ x ≤ 1000000000) :
    Calls Try.prog 58 #[.slice A l.length c] w fun e w' => e = .returned (.int .i64 (sumI l)) ∧ w = w' := by
  have HR := Aside0.mk hr
  have HL := Aside0.mk hl
  have HB := Aside0.mk hb
  clear hr hl hb
  go_enter Try.func58, Try.ntmps58
  go_wp2
  go_loop [3, 8] (fun v3 v8 => ∃ k : Nat, k ≤ l.length ∧ v8 = .int .i64 k ∧ v3 = .int .i64 (sumI (l.take k))) (fun _ v8 => l.length - (intOf v8).toNat)
  case atStart => exact ⟨0, Nat.zero_le _, rfl, rfl⟩
  case round =>
    obtain ⟨k, hk, rfl, rfl⟩ := hrel
    by_cases hlt : k < l.length
    · have H2 : Aside0 (sumI (l.take (k + 1)) = sumI (l.take k) + rd l k) := ⟨by rw [take_snoc l k hlt, sumI_append]; simp [sumI]⟩
      obtain ⟨ad, rfl, hx⟩ := Kd.at_int HR.out (k : Int) (by omega) (by omega)
      rw [Int.toNat_natCast] at hx
      have hb1 := sumI_bound 1000000000 (by omega) (l.take k) (fun x hx => HB.out x (List.mem_of_mem_take hx))
      have hb2 := HB.out (rd l k) (by simp [rd, List.getD, hlt])
      have hl' := HL.out
      have hlen : (l.take k).length ≤ 1000 := by rw [List.length_take]; omega
      have q1 : -1000000000000 ≤ sumI (l.take k) := by omega
      have q2 : sumI (l.take k) ≤ 1000000000000 := by omega
      obtain ⟨q3, q4⟩ := hb2
      clear hb1 hlen
      go_wp2
      go_round
      case rel => exact ⟨k + 1, by omega, by go_num, by rw [H2.out]⟩
      case measure => simp [intOf]; omega
    · have H2 : Aside0 (l.take k = l) := ⟨List.take_of_length_le (by omega)⟩
      go_wp2
      go_ret
      exact ⟨by rw [H2.out]; rfl, rfl⟩
end Go.Proofs.Ythadaajgjloogaa.L
