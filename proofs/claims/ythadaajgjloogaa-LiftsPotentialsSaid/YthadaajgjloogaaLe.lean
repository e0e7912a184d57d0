import Derived.Test.YthadaajgjloogaaLd
namespace Go.Proofs.Ythadaajgjloogaa.L
open Go.RowKit Go.Proofs.YthadaajgjloogaaW.PrintWords Go.Proofs.YthadaajgjloogaaW.PrintLast Go.Proofs.YthadaajgjloogaaW.PrintMore
attribute [local go_sem] max2_int min2_int max_two min_two max_three min_three max_four min_four

/-- The first place of a list with a property; -1: none. -/
def idxP (p : Int → Bool) : List Int → Int
  | [] => -1
  | x :: r => if p x then 0 else (if idxP p r < 0 then -1 else idxP p r + 1)
theorem rd_cons (x : Int) (r : List Int) (i : Nat) : rd (x :: r) ((i + 1 : Nat) : Int) = rd r i := by simp [rd]
theorem rd_zero (x : Int) (r : List Int) : rd (x :: r) ((0 : Nat) : Int) = x := by simp [rd]
theorem idxP_at (p : Int → Bool) : ∀ (l : List Int) (j : Nat), j < l.length → (∀ i, i < j → p (rd l i) = false) → p (rd l j) = true → idxP p l = j
  | [], j, h, _, _ => by simp at h
  | x :: r, 0, _, _, h => by rw [rd_zero] at h; simp [idxP, h]
  | x :: r, j + 1, h, hn, hy => by
    have h0 := hn 0 (by omega)
    rw [rd_zero] at h0
    have ih := idxP_at p r j (by simpa using h) (fun i hi => by have := hn (i + 1) (by omega); rwa [rd_cons] at this) (by rwa [rd_cons] at hy)
    simp only [idxP, h0, Bool.false_eq_true, if_false]
    rw [ih, if_neg (by omega)]
    omega
theorem idxP_none (p : Int → Bool) : ∀ (l : List Int), (∀ i, i < l.length → p (rd l i) = false) → idxP p l = -1
  | [], _ => rfl
  | x :: r, hn => by
    have h0 := hn 0 (by simp)
    rw [rd_zero] at h0
    have ih := idxP_none p r (fun i hi => by have := hn (i + 1) (by simpa using hi); rwa [rd_cons] at this)
    simp [idxP, h0, ih]

def badF (n : Int) : Bool := !withinB n 0 30
set_option maxHeartbeats 1000000 in
theorem indexBad_calls (A : Option Addr) (c : Nat) (l : List Int) (w : World) (hr : Kd.C (Kd.int .i64) w A l.length l) :
    Calls Try.prog 87 #[.slice A l.length c, .func (.func 80) #[] #[]] w fun e w' => e = .returned (.int .i64 (idxP badF l)) ∧ w = w' := by
  have HR := Aside0.mk hr
  have hmx := Kd.C_max hr
  clear hr
  go_enter Try.func87, Try.ntmps87
  go_wp2
  go_loop [8] (fun v8 => ∃ j : Nat, j ≤ l.length ∧ v8 = .int .i64 j ∧ Aside0 (∀ i, i < j → badF (rd l i) = false)) (fun v8 => l.length - (intOf v8).toNat)
  case atStart => exact ⟨0, Nat.zero_le _, rfl, ⟨fun i hi => by omega⟩⟩
  case round =>
    obtain ⟨j, hj, rfl, HN⟩ := hrel
    by_cases hlt : j < l.length
    · obtain ⟨ad, rfl, hx⟩ := Kd.at_int HR.out (j : Int) (by omega) (by omega)
      rw [Int.toNat_natCast] at hx
      have hc := bad_calls (rd l j) w
      have HC := Aside0.mk hc
      clear hc
      cases hb : badF (rd l j)
      · have HB := Aside0.mk hb
        have HN1 : Aside0 (∀ i, i < j + 1 → badF (rd l i) = false) := ⟨fun i hi => by
          rcases Nat.lt_or_ge i j with h | h
          · exact HN.out i h
          · obtain rfl : i = j := by omega
            exact HB.out⟩
        clear hb
        go_wp2_with (go_at_call 80; refine HC.out.mono ?_; rintro e w' ⟨rfl, rfl⟩; rw [show (!withinB (rd l j) 0 30) = false from HB.out])
        go_round
        case rel => exact ⟨j + 1, by omega, by go_num, HN1⟩
        case measure => simp [intOf]; omega
      · have HB := Aside0.mk hb
        have HI : Aside0 (idxP badF l = j) := ⟨idxP_at badF l j hlt HN.out hb⟩
        clear hb
        go_wp2_with (go_at_call 80; refine HC.out.mono ?_; rintro e w' ⟨rfl, rfl⟩; rw [show (!withinB (rd l j) 0 30) = true from HB.out])
        go_ret
        exact ⟨by rw [HI.out]; rfl, rfl⟩
    · have HI : Aside0 (idxP badF l = -1) := ⟨idxP_none badF l (fun i hi => HN.out i (by omega))⟩
      go_wp2
      go_ret
      exact ⟨by rw [HI.out]; rfl, rfl⟩
theorem containsBad_calls (A : Option Addr) (c : Nat) (l : List Int) (w : World) (hr : Kd.C (Kd.int .i64) w A l.length l) :
    Calls Try.prog 68 #[.slice A l.length c, .func (.func 80) #[] #[]] w fun e w' => e = .returned (.bool (decide (0 ≤ idxP badF l))) ∧ w = w' := by
  have HR := Aside0.mk hr
  clear hr
  go_enter Try.func68, Try.ntmps68
  go_wp2_with (go_at_call 87; refine (indexBad_calls _ _ _ _ HR.out).mono ?_; rintro e w' ⟨rfl, rfl⟩)
  go_ret
  exact ⟨rfl, rfl⟩
end Go.Proofs.Ythadaajgjloogaa.L
