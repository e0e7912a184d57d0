import Derived.Test.YthadaajgjloogaaLl
import Derived.RangeFuncNested
import Derived.RangeFuncBound
import Derived.RangeFuncCalls
import Derived.RangeFuncLeaves
import Derived.Shelf.Abstract
import Derived.Shelf.RegionOpen
import Derived.OwnWalkIn
import Derived.TacticsInMore
import Derived.LoopNIn
import Derived.LoopIn
namespace Go.Proofs.Ythadaajgjloogaa.L
open Go.RowKit Go.Shelf Go.Proofs.YthadaajgjloogaaW.PrintWords Go.Proofs.YthadaajgjloogaaW.PrintLast Go.Proofs.YthadaajgjloogaaW.PrintMore
attribute [local go_sem] max2_int min2_int max_two min_two max_three min_three max_four min_four
attribute [local go_sem] Oper.semAt_some

/-! ### the iterator all (82, 103, 104) -/
/-- The positions of d more lifts behind those of p, floors from f on, in lexicographic order. -/
def gen : Nat → List Int → Nat → List (List Int)
  | 0, p, _ => [p]
  | d + 1, p, f => (List.range (31 - f)).flatMap fun i => gen d (p ++ [((f + i : Nat) : Int)]) (f + i)
/-- All positions of k lifts. -/
def allP (k : Nat) : List (List Int) := gen k [] 0

/-- What the helper leans on: where h, yield, s and next lie. -/
structure It (W : World) (l hb b k : Nat) (s0 : List Int) (cv : Value) (s : List Int) : Prop where
  h1 : W.heap[hb]? = some (.cells (hl k s0 cv) 62 (0, 0))
  h2 : W.heap[b]? = some (.cells #[.func (.yield l) #[] #[]] 118 (0, 0))
  h3 : W.heap[b + 1]? = some (.cells (sp s) 60 (0, 0))
  h4 : W.heap[b + 1 + 1]? = some (.cells #[.func (.func 104) #[] #[.pointer (some ⟨hb, 0, none⟩), .pointer (some ⟨b, 0, none⟩), .pointer (some ⟨b + 1, 0, none⟩), .pointer (some ⟨b + 1 + 1, 0, none⟩)]] 119 (0, 0))
  h5 : hb < b
abbrev nextArgs (hb b : Nat) (i least : Int) : Array Value := #[.int .i64 i, .int .i64 least, .pointer (some ⟨hb, 0, none⟩), .pointer (some ⟨b, 0, none⟩), .pointer (some ⟨b + 1, 0, none⟩), .pointer (some ⟨b + 1 + 1, 0, none⟩)]

set_option maxHeartbeats 2000000 in
theorem next_leaf (n l hb b k : Nat) (s0 : List Int) (cv : Value) (s : List Int) (least : Int) (W : World) (Q : World → Prop) (hI : It W l hb b k s0 cv s)
    (hY : YieldAt Fence.wide (n - 1) Try.prog l #[.agg (sp s)] W fun e W' => e = .returned (.bool true) ∧ Q W') :
    CallsIn Fence.wide n Try.prog 104 (nextArgs hb b k least) W fun e W' => e = .returned (.bool true) ∧ Q W' := by
  obtain ⟨fn, tmps, assign, body, hy, hR⟩ := hY
  rw [spv] at hy
  obtain ⟨⟨c0, _, _, _, _⟩, _⟩ := hl_read hI.h1
  obtain ⟨r0, r1, r2, _, _, _⟩ := sp_read hI.h3
  have y0 := blk_cell hI.h2 0
  simp only [List.getElem?_toArray, List.getElem?_cons_zero] at y0
  have HR := Aside0.mk hR
  clear hR
  refine callsIn_of_wp Try.func104 rfl trivial ?_
  simp only [Try.ntmps104, List.size_toArray, List.length_cons, List.length_nil, Nat.reduceAdd, Nat.reduceSub, Array.replicate_succ, Array.replicate_zero, List.push_toArray, List.append_toArray, List.nil_append, List.cons_append]
  gi_wp2
  refine ⟨fun h => (by cases h), HR.out.mono ?_⟩
  rintro e W' ⟨rfl, hq⟩
  gi_wp2
  go_ret
  exact ⟨rfl, hq⟩

/-- The four blocks lie as they lay. -/
def Keep4 (hb b : Nat) (W W' : World) : Prop := ∀ g, (g = hb ∨ g = b ∨ g = b + 1 ∨ g = b + 1 + 1) → W'.heap[g]? = W.heap[g]?
theorem It.keep {W W' : World} {l hb b k : Nat} {s0 : List Int} {cv : Value} {s : List Int} (h : It W l hb b k s0 cv s) (hk : Keep4 hb b W W') : It W' l hb b k s0 cv s :=
  ⟨(hk _ (.inl rfl)).trans h.h1, (hk _ (.inr (.inl rfl))).trans h.h2, (hk _ (.inr (.inr (.inl rfl)))).trans h.h3, (hk _ (.inr (.inr (.inr rfl)))).trans h.h4, h.h5⟩
theorem It.set {W : World} {l hb b k : Nat} {s0 : List Int} {cv : Value} {s : List Int} (h : It W l hb b k s0 cv s) (h3 : s.length = 3) (i : Nat) (hi : i < 3) (x : Int) : It (W.setCell ⟨b + 1, i, none⟩ (.int .i64 x)) l hb b k s0 cv (s.set i x) :=
  ⟨blk_far h.h1 (show hb ≠ b + 1 by have := h.h5; omega) _, blk_far h.h2 (show b ≠ b + 1 by omega) _, by rw [blk_set h.h3, sp_set s i x (by omega) (by omega)], blk_far h.h4 (show b + 1 + 1 ≠ b + 1 by omega) _, h.h5⟩
/-- s holds p in its first places, nothing from k on. -/
structure Arr (k i : Nat) (p s : List Int) : Prop where
  len : s.length = 3
  tk : s.take i = p
  z : ∀ j : Nat, k ≤ j → j < 3 → rd s j = 0
theorem Arr.sp {k : Nat} {p s : List Int} (h : Arr k k p s) (hk : k ≤ 3) : sp s = sp p := by
  obtain ⟨hl, ht, hz⟩ := h
  have hp : p.length = k := by rw [← ht, List.length_take]; omega
  have : ∀ j : Nat, j < 3 → rd s j = rd p j := by
    intro j hj
    rcases Nat.lt_or_ge j k with h | h
    · rw [← ht]; simp [rd, List.getD, List.getElem?_take, h]
    · rw [hz j h hj, rd_out (by omega)]
  unfold L.sp
  have a0 := this 0 (by omega)
  have a1 := this 1 (by omega)
  have a2 := this 2 (by omega)
  simp only [Int.natCast_zero, Int.natCast_one] at a0 a1
  have a2' : rd s 2 = rd p 2 := a2
  have a0' : rd s 0 = rd p 0 := a0
  have a1' : rd s 1 = rd p 1 := a1
  rw [a0', a1', a2']
theorem Arr.set {k i : Nat} {p s : List Int} (h : Arr k i p s) (hi : i < k) (hk : k ≤ 3) (x : Int) : Arr k (i + 1) (p ++ [x]) (s.set i x) := by
  obtain ⟨hl, ht, hz⟩ := h
  refine ⟨by simpa using hl, ?_, fun j hj h3 => ?_⟩
  · rw [List.take_succ_eq_append_getElem (by simp; omega)]
    simp [List.take_set_of_le, ht]
  · rw [rd_set_ne (by omega)]; exact hz j hj h3
theorem Arr.back {k i : Nat} {p s : List Int} {x : Int} (h : Arr k (i + 1) (p ++ [x]) s) (hp : p.length = i) : Arr k i p s := by
  obtain ⟨hl, ht, hz⟩ := h
  refine ⟨hl, ?_, hz⟩
  have : (s.take (i + 1)).take i = (p ++ [x]).take i := by rw [ht]
  rw [List.take_take, Nat.min_eq_left (by omega)] at this
  rw [this, ← hp, List.take_left]

/-- What has come up when the loop stands at floor f + j. -/
def genJ (d : Nat) (p : List Int) (f j : Nat) : List (List Int) := (List.range j).flatMap fun i => gen d (p ++ [((f + i : Nat) : Int)]) (f + i)
theorem genJ_succ (d : Nat) (p : List Int) (f j : Nat) : genJ d p f (j + 1) = genJ d p f j ++ gen d (p ++ [((f + j : Nat) : Int)]) (f + j) := by simp [genJ, List.range_succ]
theorem genJ_pre (d : Nat) (p : List Int) (f : Nat) : ∀ j m, j ≤ m → ∃ r, genJ d p f j ++ r = genJ d p f m
  | j, m, h => by
    induction m with
    | zero => obtain rfl : j = 0 := by omega
              exact ⟨[], by simp⟩
    | succ m ih =>
      rcases Nat.lt_or_ge j (m + 1) with h1 | h1
      · obtain ⟨r, hr⟩ := ih (by omega)
        exact ⟨r ++ gen d (p ++ [((f + m : Nat) : Int)]) (f + m), by rw [genJ_succ, ← hr, List.append_assoc]⟩
      · obtain rfl : j = m + 1 := by omega
        exact ⟨[], by simp⟩

section
variable (l hb b k m : Nat) (s0 : List Int) (cv : Value) (J : List (List Int) → World → Prop)
    (hY : ∀ pre x W s, J pre W → (pre ++ [x]) <+: allP k → It W l hb b k s0 cv s → YieldAt Fence.wide m Try.prog l #[.agg (sp x)] W fun e W' => e = .returned (.bool true) ∧ J (pre ++ [x]) W' ∧ Keep4 hb b W W')
    (hJs : ∀ pre W (i : Nat) v, J pre W → J pre (W.setCell ⟨b + 1, i, none⟩ v)) (hk3 : k ≤ 3)
include hY hJs hk3
set_option maxHeartbeats 4000000 in
theorem next_calls : ∀ (d i : Nat), i + d = k → ∀ (p : List Int) (least : Nat) (s : List Int) (pre rest : List (List Int)) (W : World), p.length = i → Arr k i p s → least ≤ 31 → pre ++ gen d p least ++ rest = allP k → J pre W → It W l hb b k s0 cv s →
    Calls Try.prog 104 (nextArgs hb b i least) W fun e W' => e = .returned (.bool true) ∧ J (pre ++ gen d p least) W' ∧ ∃ s', It W' l hb b k s0 cv s' ∧ Arr k i p s' := by
  intro d
  induction d with
  | zero =>
    intro i hi p least s pre rest W hp hA hl hpre hJ hI
    obtain rfl : i = k := by omega
    have hsp := hA.sp hk3
    refine callsIn_wide (n := m + 1).1 ((next_leaf (m + 1) l hb b i s0 cv s least W (fun W' => J (pre ++ [p]) W' ∧ Keep4 hb b W W') hI ?_).mono ?_)
    · rw [hsp]
      exact hY pre p W s hJ ⟨rest, hpre⟩ hI
    · rintro e W' ⟨he, hj, hk⟩
      exact ⟨he, hj, s, hI.keep hk, hA⟩
  | succ d ih =>
    intro i hi p least s pre rest W hp hA hl hpre hJ hI
    have IH := Aside0.mk ih
    have HS := Aside0.mk (And.intro hJ (And.intro hI hA))
    have HPRE := Aside0.mk hpre
    have HP := Aside0.mk hp
    have HHJ := Aside0.mk hJs
    have hik : ((i : Int) == (k : Int)) = false := beq_eq_false_iff_ne.2 (by omega)
    have hik2 : (i == k) = false := beq_eq_false_iff_ne.2 (by omega)
    obtain ⟨⟨c0, _, _, _, _⟩, _⟩ := hl_read hI.h1
    clear ih hA hpre hJ hI hJs hY hp
    go_enter Try.func104, Try.ntmps104
    have HG : Aside0 (gen (d + 1) p least = genJ d p least (31 - least)) := ⟨rfl⟩
    go_wp2
    go_loopw [9] (fun v9 wr => ∃ f : Nat, least ≤ f ∧ f ≤ 31 ∧ v9 = .int .i64 f ∧ Aside0 (J (pre ++ genJ d p least (f - least)) wr ∧ ∃ s, It wr l hb b k s0 cv s ∧ Arr k i p s)) (fun v9 _ => (31 - intOf v9).toNat)
    case atStart => exact ⟨least, Nat.le_refl _, hl, rfl, ⟨by simpa [genJ] using HS.out.1, s, HS.out.2.1, HS.out.2.2⟩⟩
    case round =>
      clear HS c0
      obtain ⟨f, hf1, hf2, rfl, HS⟩ := hrel
      obtain ⟨hJ1, s1, hI1, hA1⟩ := HS.out
      by_cases hlt : f ≤ 30
      · have hcell := sp_cell hI1.h3 i (by omega)
        have hfz := blk_frozen hI1.h3 i
        have hc4 := blk_cell hI1.h4 0
        simp only [List.getElem?_toArray, List.getElem?_cons_zero] at hc4
        obtain ⟨r, hr⟩ := genJ_pre d p least (f - least + 1) (31 - least) (by omega)
        have HE : Aside0 (genJ d p least (f + 1 - least) = genJ d p least (f - least) ++ gen d (p ++ [(f : Int)]) f) := ⟨by
          rw [show f + 1 - least = (f - least) + 1 by omega, genJ_succ, show least + (f - least) = f by omega]⟩
        have HC := Aside0.mk (IH.out (i + 1) (by omega) (p ++ [(f : Int)]) f (s1.set i (f : Int)) (pre ++ genJ d p least (f - least)) (r ++ rest) (wr.setCell ⟨b + 1, i, none⟩ (.int .i64 (f : Int)))
          (by simp [HP.out]) (hA1.set (by omega) hk3 _) hf2 (by
            have h1 := HPRE.out
            rw [HG.out, ← hr, genJ_succ, show least + (f - least) = f by omega] at h1
            rw [← h1]
            simp only [List.append_assoc]) (HHJ.out _ _ _ _ hJ1) (hI1.set hA1.len i (by omega) _))
        have hi3 : (i : Int) < 3 := by omega
        clear hJ1 hI1 hA1 hr
        go_wp2_with ((go_at_call 104); refine HC.out.mono ?_; rintro e W' ⟨rfl, hj, hs⟩; have HN : Aside0 (J (pre ++ genJ d p least (f + 1 - least)) W' ∧ ∃ s, It W' l hb b k s0 cv s ∧ Arr k i p s) := ⟨by rw [HE.out, ← List.append_assoc]; exact hj, by obtain ⟨s', h1, h2⟩ := hs; exact ⟨s', h1, h2.back HP.out⟩⟩; clear hj hs)
        go_roundw
        case rel => exact ⟨f + 1, by omega, by omega, by go_num, HN⟩
        case measure => simp [intOf]; omega
      · obtain rfl : f = 31 := by omega
        clear hJ1 hI1 hA1
        go_wp2
        go_ret
        exact ⟨rfl, by rw [HG.out]; exact HS.out.1, HS.out.2⟩
end
end Go.Proofs.Ythadaajgjloogaa.L
