import Derived.Test.YthadaajgjloogaaLy
namespace Go.Proofs.Ythadaajgjloogaa.L
open Go.RowKit Go.Shelf Go.Proofs.YthadaajgjloogaaW.PrintWords Go.Proofs.YthadaajgjloogaaW.PrintLast Go.Proofs.YthadaajgjloogaaW.PrintMore
attribute [local go_sem] max2_int min2_int max_two min_two max_three min_three max_four min_four
attribute [local go_sem] Oper.semAt_some

/-! ### list (13) -/
set_option maxHeartbeats 2000000 in
theorem list_calls (A : Option Addr) (c : Nat) (l : List Int) (w : World) (hr : Kd.C (Kd.int .i64) w A l.length l) (hc : l.length ≤ c) :
    Calls Try.prog 13 #[.slice A l.length c] w fun e w' => ∃ v, e = .returned v ∧ Kd.R (Kd.int .i64) 3 w' w.heap.size (fun x => w.heap.size ≤ x) v (l.take 41) ∧ Below w.heap.size w w' := by
  have hmx := Kd.C_max hr
  obtain ⟨j, hj⟩ : ∃ j : Int, (if 41 < (l.length : Int) then 41 else (l.length : Int)) = j := ⟨_, rfl⟩
  have hj0 : 0 ≤ j := by rw [← hj]; split <;> omega
  have hj1 : j ≤ (l.length : Int) := by rw [← hj]; split <;> omega
  have hj41 : j ≤ 41 := by rw [← hj]; split <;> omega
  have HT : Aside0 (l.take j.toNat = l.take 41) := ⟨by
    rw [← hj]; split
    · rfl
    · rw [List.take_of_length_le (by omega), List.take_of_length_le (by omega)]⟩
  obtain ⟨i0, hi0, _, hsz, _⟩ := info_parts info3
  obtain ⟨hcut, hA, _⟩ := print_take_of (P := Try.prog) (Value.int .i64) 0 22 3 .i64 Try.underlying22 hi0 hsz A c l j hj0 hj1 hc
  have HC := Aside0.mk (Kd.C_of_reads (h1 := fun _ => rfl) (hA w (Kd.reads_of_C hr)))
  have HL : Aside0 ((l.take j.toNat).length ≤ 41) := ⟨by rw [List.length_take]; omega⟩
  clear hA hi0 hsz hr hc
  generalize l.take j.toNat = ys at *
  clear hj41
  go_enter Try.func13, Try.ntmps13
  go_wp2_with ((with_reducible refine gate_builtin (b := .append) (xs := #[.tmp 4, .tmp 9]) rfl ?_); at_builtin; refine Kd.R_append_row (Value.int .i64) 0 (h1 := fun _ => rfl) (w0 := w) w.heap.size rfl (.tmp 4) (.tmp 9) 22 3 (.int .i64 0) 8 rfl Try.underlying22 info3 rfl (by omega) (.slice none 0 0) ([] : List Int) ys A ys.length c (fun x => w.heap.size ≤ x) rfl rfl (fun _ h => h) (Kd.R_nil _ _ _ _ _) HC.out (Below.refl _ _) (Nat.le_refl _) (by have := HL.out; simp; omega) ?_; intro v1 w1 hR hB hg hat; have HR1 := Aside0.mk hR; have HB1 := Aside0.mk hB; clear hR hB hg hat)
  go_ret
  exact ⟨v1, rfl, by rw [← HT.out]; exact HR1.out, HB1.out⟩
end Go.Proofs.Ythadaajgjloogaa.L
