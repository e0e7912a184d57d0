import Derived.Test.YthadaajgjloogaaLw
namespace Go.Proofs.Ythadaajgjloogaa.L
open Go.RowKit Go.Shelf Go.Proofs.YthadaajgjloogaaW.PrintWords

/-! ### sorting by insertion, and what awake asks for -/
def insL (x : Int) : List Int → List Int
  | [] => [x]
  | y :: r => if y ≤ x then y :: insL x r else x :: y :: r
/-- Each element inserted behind those that are not greater, from the left. -/
def isort (l : List Int) : List Int := l.foldl (fun acc x => insL x acc) []
theorem insL_perm (x : Int) : ∀ l, (insL x l).Perm (x :: l)
  | [] => List.Perm.refl _
  | y :: r => by
    simp only [insL]
    split
    · exact ((insL_perm x r).cons y).trans (List.Perm.swap x y r)
    · exact List.Perm.refl _
theorem insL_sorted (x : Int) : ∀ l, l.Pairwise (· ≤ ·) → (insL x l).Pairwise (· ≤ ·)
  | [], _ => by simp [insL]
  | y :: r, h => by
    obtain ⟨h1, h2⟩ := List.pairwise_cons.1 h
    simp only [insL]
    split
    · rename_i hy
      refine List.pairwise_cons.2 ⟨fun z hz => ?_, insL_sorted x r h2⟩
      rcases List.mem_cons.1 ((insL_perm x r).mem_iff.1 hz) with rfl | hz
      · exact hy
      · exact h1 z hz
    · rename_i hy
      refine List.pairwise_cons.2 ⟨fun z hz => ?_, h⟩
      rcases List.mem_cons.1 hz with rfl | hz
      · omega
      · have := h1 z hz; omega
theorem foldl_ins (l : List Int) : ∀ acc : List Int, acc.Pairwise (· ≤ ·) → (l.foldl (fun acc x => insL x acc) acc).Pairwise (· ≤ ·) ∧ (l.foldl (fun acc x => insL x acc) acc).Perm (acc ++ l) := by
  induction l with
  | nil => intro acc h; exact ⟨h, by simp⟩
  | cons x r ih =>
    intro acc h
    obtain ⟨h1, h2⟩ := ih (insL x acc) (insL_sorted x acc h)
    refine ⟨h1, h2.trans ?_⟩
    refine ((insL_perm x acc).append_right r).trans ?_
    simp only [List.cons_append]
    exact List.perm_middle.symm
theorem srt_eq (l : List Int) : srt l = isort l := by
  obtain ⟨h1, h2⟩ := foldl_ins l [] List.Pairwise.nil
  refine List.Perm.eq_of_pairwise (le := fun a b : Int => a ≤ b) (fun a b _ _ h3 h4 => by omega) (srt_sorted l) h1 ?_
  exact (List.mergeSort_perm l _).trans (by simpa [isort] using h2.symm)
def aftV' (f : List Int → Int) (x : Int) (p : List Int) (i : Nat) : Int := f (isort (p.set i x)) + ab (rd p i) x
theorem aftV_eq (f : List Int → Int) (x : Int) (p : List Int) (i : Nat) : aftV f x p i = aftV' f x p i := by unfold aftV aftV'; rw [srt_eq]
def aftB' (f : List Int → Int) (x : Int) (p : List Int) : Nat → Int
  | 0 => aftV' f x p 0
  | j + 1 => min (aftV' f x p (j + 1)) (aftB' f x p j)
theorem aftB_eq (f : List Int → Int) (x : Int) (p : List Int) : ∀ j, aftB f x p j = aftB' f x p j
  | 0 => aftV_eq f x p 0
  | j + 1 => by simp only [aftB, aftB', aftV_eq, aftB_eq f x p j]; omega
def workAt' (s c : List Int) : Nat → List Int → Int
  | 0 => distF s
  | j + 1 => fun p => aftB' (workAt' s c j) (rd c j) p (s.length - 1)
theorem workAt_eq (s c : List Int) : ∀ j, workAt s c j = workAt' s c j
  | 0 => rfl
  | j + 1 => by
    funext p
    simp only [workAt, workAt', aftF, workAt_eq s c j, aftB_eq]
/-- frm, bps and bestC, the works reckoned with isort. -/
def frm' (s c : List Int) : Nat → List Int → Int
  | 0 => fun _ => 0
  | j + 1 => distF (chF (fun p => workAt' s c (c.length - j) p + frm' s c j p) (rd c ((c.length - 1 - j : Nat) : Int)) (allP s.length)).1
theorem frm_eq (s c : List Int) : ∀ j, frm s c j = frm' s c j
  | 0 => rfl
  | j + 1 => by simp only [frm, frm', workAt_eq, frm_eq s c j]
def bps' (s c : List Int) (j : Nat) : List Int := (chF (fun p => workAt' s c (c.length - j) p + frm' s c j p) (rd c ((c.length - 1 - j : Nat) : Int)) (allP s.length)).1
theorem bps_eq (s c : List Int) (j : Nat) : bps s c j = bps' s c j := by simp only [bps, bps', workAt_eq, frm_eq]
theorem awake_runC : runC cS [0, 10] [6, 4, 6] = 8 := by decide
theorem awake_runL : rL (runL cS [0, 10] [6, 4, 6]) 0 = [4, 6] := by decide
theorem awake_pot : potF [0, 10] [0, 10] = 10 := by decide
theorem awake_work : workF [5] [7, 3] [4] = 7 := by rw [workF, workAt_eq]; decide +kernel
theorem awake_bps0 : bps [0, 10] [6, 4, 6] 0 = [0, 6] := by rw [bps_eq]; decide +kernel
theorem awake_bps1 : bps [0, 10] [6, 4, 6] 1 = [0, 4] := by rw [bps_eq]; decide +kernel
theorem awake_bps2 : bps [0, 10] [6, 4, 6] 2 = [0, 6] := by rw [bps_eq]; decide +kernel
theorem awake_best : bestC [0, 10] [6, 4, 6] = 8 := by
  have h0 := bestL_get [0, 10] [6, 4, 6] 0 (by decide)
  have h1 := bestL_get [0, 10] [6, 4, 6] 1 (by decide)
  have h2 := bestL_get [0, 10] [6, 4, 6] 2 (by decide)
  simp only [List.length_cons, List.length_nil, Nat.zero_add, Nat.reduceAdd, Nat.reduceSub, awake_bps0, awake_bps1, awake_bps2] at h0 h1 h2
  simp only [bestC, List.length_cons, List.length_nil, Nat.zero_add, Nat.reduceAdd, costTo, nowAt, h0, h1, h2]
  decide
end Go.Proofs.Ythadaajgjloogaa.L
