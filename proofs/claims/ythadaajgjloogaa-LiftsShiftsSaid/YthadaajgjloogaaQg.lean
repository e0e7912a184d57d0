import Derived.Test.YthadaajgjloogaaQf
import Derived.Test.YthadaajgjloogaaPLiftsCompetesx8
import Derived.Test.YthadaajgjloogaaQe
import Derived.Test.YthadaajgjloogaaQd
import Derived.Deep.Matrix
namespace Go.Proofs.Ythadaajgjloogaa.L
open Go.RowKit Go.Shelf Go.Proofs.YthadaajgjloogaaW.PrintWords Go.Proofs.YthadaajgjloogaaW.PrintLast Go.Proofs.YthadaajgjloogaaW.PrintMore
open Go.Proofs.Ythadaajgjloogaa.PLiftsCompetes

/-! ### mod (31), lifted (23) -/
def modF (x n : Int) : Int := (IntKind.u64.wrap x) % n
theorem u64_range (x : Int) : 0 ≤ IntKind.u64.wrap x ∧ IntKind.u64.wrap x ≤ 18446744073709551615 := by
  have : IntKind.u64.wrap x = x % 18446744073709551616 := by simp [IntKind.wrap, IntKind.bits, IntKind.signed]
  omega
theorem mod_f (x n : Int) (hn : 1 ≤ n ∧ n ≤ 1000) : turndownlaw07_mod.f x n = some (modF x n) := by
  have h1 := u64_range x
  rw [turndownlaw07_mod.f, IntWalk.u64_in n (by omega), if_neg (by omega), Int.tmod_eq_emod_of_nonneg h1.1]
  have h2 := Int.emod_nonneg (IntKind.u64.wrap x) (show n ≠ 0 by omega)
  have h3 := Int.emod_lt_of_pos (IntKind.u64.wrap x) (show 0 < n by omega)
  rw [w64 _ (by omega)]
  rfl
theorem modF_range (x : Int) {n : Int} (hn : 1 ≤ n) : 0 ≤ modF x n ∧ modF x n < n :=
  ⟨Int.emod_nonneg _ (by omega), Int.emod_lt_of_pos _ (by omega)⟩
theorem modF_id {x n : Int} (h : 0 ≤ x ∧ x < n) (hn : n ≤ 1000) : modF x n = x := by
  unfold modF
  rw [IntWalk.u64_in x (by omega), Int.emod_eq_of_lt h.1 h.2]
def liftedF (l : List Int) : Nat := (1 + modF ((l.length : Int) - 1) 3).toNat
theorem liftedF_range (l : List Int) : 1 ≤ liftedF l ∧ liftedF l ≤ 3 := by
  have := modF_range ((l.length : Int) - 1) (n := 3) (by omega)
  unfold liftedF; omega
theorem lifted_f (l : List Int) (hl : l.length ≤ 9223372036854775807) : turndownlaw07_lifted.f l = some ((liftedF l : Nat) : Int) := by
  have := modF_range ((l.length : Int) - 1) (n := 3) (by omega)
  rw [turndownlaw07_lifted.f, w64 _ (by omega), mod_f _ _ (by omega)]
  simp only [Option.bind_some]
  rw [w64 _ (by omega)]
  unfold liftedF
  congr 1
  omega

/-! ### tame (24) -/
def insDown : List Int → Int → List Int → List Int
  | [], x, b => x :: b
  | y :: ar, x, b => if y > x then insDown ar x (y :: b) else (y :: ar).reverse ++ x :: b
theorem insDown_perm : ∀ (ar : List Int) (x : Int) (b : List Int), (insDown ar x b).Perm (x :: (ar.reverse ++ b))
  | [], _, _ => List.Perm.refl _
  | y :: ar, x, b => by
    unfold insDown
    split
    · refine (insDown_perm ar x (y :: b)).trans ?_
      simp
    · exact List.perm_middle
theorem insDown_sorted : ∀ (ar : List Int) (x : Int) (b : List Int), (ar.reverse ++ b).Pairwise (· ≤ ·) → (∀ z ∈ b, x ≤ z) → (insDown ar x b).Pairwise (· ≤ ·)
  | [], x, b, h, hb => by
    simp only [List.reverse_nil, List.nil_append] at h
    exact List.pairwise_cons.2 ⟨hb, h⟩
  | y :: ar, x, b, h, hb => by
    unfold insDown
    split
    · rename_i hy
      refine insDown_sorted ar x (y :: b) (by simpa using h) (fun z hz => ?_)
      rcases List.mem_cons.1 hz with rfl | hz
      · omega
      · exact hb z hz
    · rename_i hy
      rw [List.pairwise_append] at h ⊢
      obtain ⟨h1, h2, h3⟩ := h
      refine ⟨h1, List.pairwise_cons.2 ⟨hb, h2⟩, fun a ha z hz => ?_⟩
      rcases List.mem_cons.1 hz with rfl | hz
      · rw [List.reverse_cons, List.pairwise_append] at h1
        rw [List.reverse_cons] at ha
        rcases List.mem_append.1 ha with ha | ha
        · have := h1.2.2 a ha y (by simp); omega
        · simp at ha; omega
      · exact h3 a ha z hz
theorem tame_l1 (l : List Int) (K i x : Int) (z : List Int) (r : List Int) (B : Nat) (hi : 0 ≤ i ∧ i ≤ 1000) : ∀ (ar b : List Int), ar.length ≤ 1000 → (∀ fuel, B ≤ fuel → turndownlaw07_tame.l0 fuel l K (insDown ar x b ++ z) (i + 1) = some r) → ∀ (hole : Int) (fuel : Nat), B + ar.length + 1 ≤ fuel → turndownlaw07_tame.l1 fuel l K (ar.reverse ++ hole :: (b ++ z)) i x (ar.length : Int) = some r
  | [], b, _, hB, hole, 0, hf => by omega
  | [], b, _, hB, hole, fuel + 1, hf => by
    have h := hB fuel (by simp at hf; omega)
    simp only [insDown] at h
    rw [turndownlaw07_tame.l1, if_neg (by simp), if_pos (by simp), if_pos (by simp; omega), w64 _ (by omega)]
    simpa using h
  | y :: ar, b, hl, hB, hole, 0, hf => by omega
  | y :: ar, b, hl, hB, hole, fuel + 1, hf => by
    simp only [List.length_cons] at hf hl
    have e1 : (y :: ar).reverse ++ hole :: (b ++ z) = ar.reverse ++ y :: (hole :: (b ++ z)) := by simp
    have e2 : wrap64 ((((y :: ar).length : Nat) : Int) - 1) = (ar.length : Int) := by rw [w64 _ (by simp; omega)]; simp
    have e3 : rd (ar.reverse ++ y :: (hole :: (b ++ z))) (ar.length : Int) = y := by simp [rd, List.getD]
    have e4 : (ar.reverse ++ y :: (hole :: (b ++ z))).set (((y :: ar).length : Nat) : Int).toNat y = ar.reverse ++ y :: ((y :: b) ++ z) := by
      rw [Int.toNat_natCast, List.length_cons, List.set_append_right _ _ (by simp)]
      simp
    have e5 : (ar.reverse ++ y :: (hole :: (b ++ z))).set (((y :: ar).length : Nat) : Int).toNat x = ((y :: ar).reverse ++ x :: b) ++ z := by
      rw [Int.toNat_natCast, List.length_cons, List.set_append_right _ _ (by simp)]
      simp
    have e6 : (((y :: ar).length : Nat) : Int) < ((ar.reverse ++ y :: (hole :: (b ++ z))).length : Int) := by simp; omega
    rw [e1, turndownlaw07_tame.l1, if_pos (by rw [List.length_cons]; omega), e2, if_pos (by omega), if_pos (by simp; omega), e3]
    unfold insDown at hB
    by_cases hy : y > x
    · rw [if_pos hy, if_pos (by simp; omega), if_pos e6, e4]
      rw [if_pos hy] at hB
      exact tame_l1 l K i x z r B hi ar (y :: b) (by omega) hB y fuel (by omega)
    · rw [if_neg hy, if_pos (by simp; omega), if_pos e6, e5, w64 _ (by omega)]
      rw [if_neg hy] at hB
      exact hB fuel (by omega)
def tameV (l : List Int) (i : Nat) : Int := if i < l.length then modF (rd l i) 31 else 5 * i
def tameP (l : List Int) (i : Nat) : List Int := (List.range i).map (tameV l)
def tameF (l : List Int) (k : Nat) : List Int := srt (tameP l k)
theorem tameP_succ (l : List Int) (i : Nat) : tameP l (i + 1) = tameP l i ++ [tameV l i] := by simp [tameP, List.range_succ]
theorem tameP_len (l : List Int) (i : Nat) : (tameP l i).length = i := by simp [tameP]
theorem tame_l0 (l : List Int) (k : Nat) (hk : k ≤ 3) : ∀ (d i : Nat), i + d = k → ∀ fuel, 10 * d + 1 ≤ fuel → turndownlaw07_tame.l0 fuel l k (srt (tameP l i) ++ List.replicate d 0) i = some (tameF l k)
  | _, _, _, 0, hf => by omega
  | 0, i, h, fuel + 1, hf => by
    rw [turndownlaw07_tame.l0, if_neg (by omega), show i = k by omega]
    simp [tameF]
  | d + 1, i, h, fuel + 1, hf => by
    have hr : (srt (tameP l i)).reverse.length = i := by rw [List.length_reverse, srt_len, tameP_len]
    have hins : insDown (srt (tameP l i)).reverse (tameV l i) [] = srt (tameP l (i + 1)) := by
      refine srt_uniq ?_ (insDown_sorted _ _ _ (by simpa using srt_sorted _) (by simp))
      rw [tameP_succ]
      refine (insDown_perm _ _ _).trans ?_
      simp only [List.reverse_reverse, List.append_nil]
      exact ((srt_perm _).cons _).trans (List.perm_append_singleton _ _).symm
    have key : ∀ fuel, 10 * d + 1 + i + 2 ≤ fuel → turndownlaw07_tame.j1 fuel l k (srt (tameP l i) ++ List.replicate (d + 1) 0) i (tameV l i) = some (tameF l k) := by
      intro fuel hf
      obtain ⟨fuel, rfl⟩ : ∃ m, fuel = m + 1 := ⟨fuel - 1, by omega⟩
      rw [turndownlaw07_tame.j1]
      have h1 := tame_l1 l k i (tameV l i) (List.replicate d 0) (tameF l k) (10 * d + 1) (by omega) (srt (tameP l i)).reverse [] (by omega) (fun fuel hf => by
        rw [hins, show (i : Int) + 1 = ((i + 1 : Nat) : Int) by omega]
        exact tame_l0 l k hk d (i + 1) (by omega) fuel hf) 0 fuel (by omega)
      rw [hr] at h1
      simpa [List.replicate_succ] using h1
    rw [turndownlaw07_tame.l0, if_pos (by omega)]
    by_cases hil : i < l.length
    · rw [if_pos (by omega), if_pos (by omega), mod_f _ _ (by omega)]
      simp only [Option.bind_some]
      have e : tameV l i = modF (rd l i) 31 := by simp [tameV, hil]
      rw [← e]
      exact key fuel (by omega)
    · rw [if_neg (by omega), w64 _ (by omega)]
      have e : tameV l i = 5 * i := by simp [tameV, hil]
      rw [← e]
      exact key fuel (by omega)
theorem tame_f (l : List Int) (k : Nat) (hk : k ≤ 3) (fuel : Nat) (hf : 31 ≤ fuel) : turndownlaw07_tame.f fuel l k = some (tameF l k) := by
  rw [turndownlaw07_tame.f, if_pos (by omega), if_pos (by omega), Int.toNat_natCast]
  have := tame_l0 l k hk k 0 (by omega) fuel (by omega)
  simpa [tameP, srt] using this
theorem tameV_range (l : List Int) {i : Nat} (hi : i < 3) : 0 ≤ tameV l i ∧ tameV l i ≤ 30 := by
  have := modF_range (rd l i) (n := 31) (by omega)
  unfold tameV; split <;> omega
theorem tameF_allP (l : List Int) {k : Nat} (hk : k ≤ 3) : tameF l k ∈ allP k := by
  refine srt_allP ⟨tameP_len l k, fun x hx => ?_⟩
  simp only [tameP, List.mem_map, List.mem_range] at hx
  obtain ⟨i, hi, rfl⟩ := hx
  exact tameV_range l (by omega)
/-- A list of floors, as many as lifts, is put into order. -/
theorem tameF_own {l : List Int} {k : Nat} (h : Pos k l) : tameF l k = srt l := by
  unfold tameF tameP
  congr 1
  apply List.ext_getElem
  · simp [h.len]
  · intro i h1 h2
    have h3 := h.all _ (List.getElem_mem h2)
    have e : rd l i = l[i] := by simp [rd, List.getD, h2]
    simp only [List.getElem_map, List.getElem_range, tameV, if_pos h2, e]
    exact modF_id (by omega) (by omega)

/-! ### calls (25) -/
def callsF (l : List Int) (m : Nat) : List Int := (l.take m).map fun x => modF x 31
theorem callsF_range (l : List Int) (m : Nat) : ∀ x ∈ callsF l m, 0 ≤ x ∧ x ≤ 30 := by
  intro x hx
  simp only [callsF, List.mem_map] at hx
  obtain ⟨y, _, rfl⟩ := hx
  have := modF_range y (n := 31) (by omega)
  omega
theorem callsF_len (l : List Int) (m : Nat) : (callsF l m).length ≤ m := by simp [callsF]; omega
theorem calls_l0 (l : List Int) (m : Nat) (hm : m ≤ 1000) (d : Nat) : ∀ (i : Nat), i ≤ l.length → i + d = min m l.length → turndownlaw07_calls.l0 (d + 1) l m ((l.take i).map fun x => modF x 31) i = some (callsF l m) := by
  induction d with
  | zero =>
    intro i h1 h2
    rw [turndownlaw07_calls.l0]
    have e : (l.take i).map (fun x => modF x 31) = callsF l m := by
      unfold callsF
      rcases Nat.lt_or_ge i m with h | h
      · rw [List.take_of_length_le (by omega), List.take_of_length_le (by omega)]
      · rw [show i = m by omega]
    by_cases h3 : i < l.length
    · rw [if_pos (by omega), if_neg (by omega), e]
    · rw [if_neg (by omega), e]
  | succ d ih =>
    intro i h1 h2
    have h3 : i < l.length := by omega
    have e : rd l i = l[i] := by simp [rd, List.getD, h3]
    rw [turndownlaw07_calls.l0, if_pos (by omega), if_pos (by omega), if_pos (by omega), mod_f _ _ (by omega)]
    simp only [Option.bind_some]
    rw [if_pos (by simp; omega), w64 _ (by omega), show (i : Int) + 1 = ((i + 1 : Nat) : Int) by omega, e]
    have := ih (i + 1) (by omega) (by omega)
    rw [List.take_succ_eq_append_getElem h3, List.map_append] at this
    exact this
theorem calls25_f (l : List Int) (m : Nat) (hm : m ≤ 1000) : turndownlaw07_calls.f (min m l.length + 1) l m = some (callsF l m) := by
  have := calls_l0 l m hm (min m l.length) 0 (by omega) (by omega)
  simpa [turndownlaw07_calls.f] using this
theorem hall_tame (l l1 : List Int) {k : Nat} (hk1 : 1 ≤ k) (hk : k ≤ 3) {m : Nat} (hm : m ≤ 40) : hallB (tameF l k) (callsF l1 m) = true := by
  simp only [hallB, Bool.and_eq_true]
  exact ⟨posB_of_allP hk1 hk (tameF_allP l hk), (callsB_iff _).2 ⟨by have := callsF_len l1 m; omega, callsF_range l1 m⟩⟩
end Go.Proofs.Ythadaajgjloogaa.L

namespace Go.Proofs.Ythadaajgjloogaa.L
open Go.RowKit Go.Shelf Go.Proofs.YthadaajgjloogaaW.PrintWords Go.Proofs.YthadaajgjloogaaW.PrintLast Go.Proofs.YthadaajgjloogaaW.PrintMore
open Go.Proofs.Ythadaajgjloogaa.PLiftsCompetes

/-! ### served (26) -/
def servedP (l : List (List Int)) (k i : Nat) : List Int := tameF (rL l i) k
def servedQ (l : List (List Int)) (k : Nat) (c : List Int) (i : Nat) : List Int :=
  if rd c i ∈ servedP l k i then servedP l k i else tameF ((servedP l k i).set (modF (rd c i) k).toNat (rd c i)) k
def servedF (l : List (List Int)) (k : Nat) (c : List Int) : List (List Int) := (List.range c.length).map (servedQ l k c)
theorem servedQ_ok (l : List (List Int)) {k : Nat} (hk1 : 1 ≤ k) (hk3 : k ≤ 3) {c : List Int} (hc : ∀ x ∈ c, 0 ≤ x ∧ x ≤ 30) {i : Nat} (hi : i < c.length) : servedQ l k c i ∈ allP k ∧ rd c i ∈ servedQ l k c i := by
  unfold servedQ
  split
  · rename_i h
    exact ⟨tameF_allP _ hk3, h⟩
  · have hp := allP_pos (tameF_allP (rL l i) hk3)
    have hm := modF_range (rd c i) (n := k) (by omega)
    have hs := hp.set (modF (rd c i) k).toNat (hc _ (rd_mem hi))
    refine ⟨tameF_allP _ hk3, ?_⟩
    have h2 : tameF ((servedP l k i).set (modF (rd c i) k).toNat (rd c i)) k = srt ((servedP l k i).set (modF (rd c i) k).toNat (rd c i)) := tameF_own hs
    rw [h2, srt_mem]
    refine List.mem_set ?_ _
    have : (servedP l k i).length = k := hp.len
    omega
theorem served_sched (l : List (List Int)) {k : Nat} (hk1 : 1 ≤ k) (hk3 : k ≤ 3) {c : List Int} (hc : ∀ x ∈ c, 0 ≤ x ∧ x ≤ 30) : schedB k c (servedF l k c) = true := by
  simp only [schedB, Bool.and_eq_true, decide_eq_true_eq]
  refine ⟨by simp [servedF], fun j hj => ?_⟩
  have hj' : j < c.length := by simpa [servedF] using hj
  have h := servedQ_ok l hk1 hk3 hc hj'
  have e : rL (servedF l k c) j = servedQ l k c j := by rw [rL_get _ _ hj]; simp [servedF]
  simp only [rowB, Bool.and_eq_true, decide_eq_true_eq, e]
  exact ⟨⟨posB_of_allP hk1 hk3 h.1, allP_len h.1⟩, h.2⟩
theorem served_l1 (l : List (List Int)) {k : Nat} (hk1 : 1 ≤ k) (hk3 : k ≤ 3) (c : List Int) (i : Nat) (hi : i < c.length) (hcl : c.length ≤ 1000) (rows r : List (List Int)) (hrows : rows.length ≤ 1000) (B : Nat)
    (hB : ∀ fuel, B ≤ fuel → turndownlaw07_served.l0 fuel l k c (rows ++ [servedQ l k c i]) ((i + 1 : Nat) : Int) = some r) (d : Nat) : ∀ (j : Nat) (b : Bool), j + d = k → b = decide (rd c i ∈ (servedP l k i).take j) → ∀ fuel, B + 40 + d ≤ fuel → turndownlaw07_served.l1 fuel l k c rows i (servedP l k i) b j = some r := by
  have hlen : (servedP l k i).length = k := allP_len (tameF_allP _ hk3)
  have ht := mod_f (rd c i) k (by omega)
  have hm := modF_range (rd c i) (n := k) (by omega)
  induction d with
  | zero =>
    intro j b h hb fuel hf
    obtain ⟨fuel, rfl⟩ : ∃ m, fuel = m + 1 := ⟨fuel - 1, by omega⟩
    obtain rfl : j = k := by omega
    rw [List.take_of_length_le (by omega)] at hb
    have h1 := hB fuel (by omega)
    rw [turndownlaw07_served.l1, if_neg (by omega)]
    unfold servedQ at h1
    by_cases hx : rd c i ∈ servedP l j i
    · rw [if_pos hx] at h1
      rw [decide_eq_true hx] at hb
      subst hb
      rw [if_pos rfl, if_pos (by omega), w64 _ (by omega)]
      exact h1
    · rw [if_neg hx] at h1
      rw [decide_eq_false hx] at hb
      subst hb
      rw [if_neg (by simp), if_pos (by omega), if_pos (by omega), ht]
      simp only [Option.bind_some]
      rw [if_pos hm.1, if_pos (by omega), tame_f _ _ hk3 _ (by omega)]
      simp only [Option.bind_some]
      rw [if_pos (by omega), w64 _ (by omega)]
      exact h1
  | succ d ih =>
    intro j b h hb fuel hf
    obtain ⟨fuel, rfl⟩ : ∃ m, fuel = m + 1 := ⟨fuel - 1, by omega⟩
    have hj : j < (servedP l k i).length := by omega
    have e : rd (servedP l k i) j = (servedP l k i)[j] := by simp [rd, List.getD, hj]
    rw [turndownlaw07_served.l1, if_pos (by omega), w64 _ (by omega), show (j : Int) + 1 = ((j + 1 : Nat) : Int) by omega]
    by_cases hx : rd c i ∈ (servedP l k i).take j
    · rw [decide_eq_true hx] at hb
      subst hb
      rw [if_pos rfl]
      refine ih (j + 1) true (by omega) ?_ fuel (by omega)
      symm
      rw [decide_eq_true_eq, List.take_succ_eq_append_getElem hj]
      exact List.mem_append_left _ hx
    · rw [decide_eq_false hx] at hb
      subst hb
      rw [if_neg (by simp), if_pos (by omega), if_pos (by omega), if_pos (by omega), if_pos (by omega)]
      refine ih (j + 1) _ (by omega) ?_ fuel (by omega)
      rw [List.take_succ_eq_append_getElem hj, e]
      rw [Bool.eq_iff_iff]
      simp only [beq_iff_eq, decide_eq_true_eq, List.mem_append, List.mem_singleton]
      exact ⟨fun h => Or.inr h.symm, fun h => (h.resolve_left hx).symm⟩
theorem servedF_step (l : List (List Int)) (k : Nat) (c : List Int) (i : Nat) : (List.range (i + 1)).map (servedQ l k c) = (List.range i).map (servedQ l k c) ++ [servedQ l k c i] := by simp [List.range_succ]
theorem served_l0 (l : List (List Int)) {k : Nat} (hk1 : 1 ≤ k) (hk3 : k ≤ 3) (c : List Int) (hcl : c.length ≤ 1000) (d : Nat) : ∀ (i : Nat), i + d = c.length → ∀ fuel, 60 * d + 1 ≤ fuel → turndownlaw07_served.l0 fuel l k c ((List.range i).map (servedQ l k c)) i = some (servedF l k c) := by
  induction d with
  | zero =>
    intro i h fuel hf
    obtain ⟨fuel, rfl⟩ : ∃ m, fuel = m + 1 := ⟨fuel - 1, by omega⟩
    rw [turndownlaw07_served.l0, if_neg (by omega)]
    unfold servedF
    rw [show i = c.length by omega]
  | succ d ih =>
    intro i h fuel hf
    obtain ⟨fuel, rfl⟩ : ∃ m, fuel = m + 2 := ⟨fuel - 2, by omega⟩
    have key := served_l1 l hk1 hk3 c i (by omega) hcl ((List.range i).map (servedQ l k c)) (servedF l k c) (by simp; omega) (60 * d + 1) (fun fuel hf => by
      rw [← servedF_step]
      exact ih (i + 1) (by omega) fuel hf) k 0 false (by omega) (by simp) fuel (by omega)
    have hj : turndownlaw07_served.j1 (fuel + 1) l k c ((List.range i).map (servedQ l k c)) i (servedP l k i) = some (servedF l k c) := by
      rw [turndownlaw07_served.j1]
      exact key
    rw [turndownlaw07_served.l0, if_pos (by omega)]
    by_cases hl : i < l.length
    · have e : PLiftsCompetes.rd_L1 l (i : Int) = rL l i := by unfold rL PLiftsCompetes.rd_L1 PLiftsWorks.rd_L1; rfl
      rw [if_pos (by omega), if_pos (by omega), e, tame_f _ _ hk3 _ (by omega)]
      simp only [Option.bind_some]
      exact hj
    · have e : rL l i = [] := by simp [rL, PLiftsWorks.rd_L1, List.getD, List.getElem?_eq_none (show l.length ≤ i by omega)]
      rw [if_neg (by omega), tame_f _ _ hk3 _ (by omega)]
      simp only [Option.bind_some]
      rw [← e]
      exact hj
theorem served_f (l : List (List Int)) {k : Nat} (hk1 : 1 ≤ k) (hk3 : k ≤ 3) (c : List Int) (hcl : c.length ≤ 1000) : turndownlaw07_served.f (60 * c.length + 1) l k c = some (servedF l k c) := by
  have := served_l0 l hk1 hk3 c hcl c.length 0 (by omega) (60 * c.length + 1) (by omega)
  simpa [turndownlaw07_served.f] using this

/-! ### their contracts -/
theorem lifted_calls (A : Option Addr) (c : Nat) (l : List Int) (w : World) (hr : Kd.C (Kd.int .i64) w A l.length l) (hc : l.length ≤ c) :
    Calls Try.prog 23 #[.slice A l.length c] w fun e w' => e = .returned (.int .i64 ((liftedF l : Nat) : Int)) ∧ Below w.heap.size w w' :=
  (turndownlaw07_lifted.calls A c l _ w hr hc (lifted_f l (Kd.C_max hr))).mono fun _ _ h => ⟨h.1, h.2.below⟩
/-- A list in memory of the call's own. -/
def Made (w : World) (r : List Int) (e : Ending) (w' : World) : Prop :=
  ∃ A c, e = .returned (.slice A r.length c) ∧ r.length ≤ c ∧ Kd.R (Kd.int .i64) 3 w' w.heap.size (fun _ => True) (.slice A r.length c) r ∧ Below w.heap.size w w'
theorem made_of {w w' : World} {r : List Int} {v : Value} (hr : Kd.R (Kd.int .i64) 3 w' w.heap.size (fun _ => True) v r) (hb : Below w.heap.size w w') : Made w r (.returned v) w' := by
  obtain ⟨A, c, rfl, h1, _⟩ := Kd.R_reads hr
  exact ⟨A, c, rfl, h1, hr, hb⟩
theorem tame_calls (A : Option Addr) (c : Nat) (l : List Int) (k : Nat) (hk : k ≤ 3) (w : World) (hr : Kd.C (Kd.int .i64) w A l.length l) (hc : l.length ≤ c) :
    Calls Try.prog 24 #[.slice A l.length c, .int .i64 k] w (Made w (tameF l k)) :=
  (turndownlaw07_tame.calls 31 A c l k _ w hr hc (tame_f l k hk 31 (by omega))).mono fun e w' h => by
    obtain ⟨v, rfl, h1, h2⟩ := h
    exact made_of h1 h2
theorem calls25_calls (A : Option Addr) (c : Nat) (l : List Int) (m : Nat) (M : Int) (hM : (m : Int) = M) (hm : m ≤ 1000) (w : World) (hr : Kd.C (Kd.int .i64) w A l.length l) (hc : l.length ≤ c) :
    Calls Try.prog 25 #[.slice A l.length c, .int .i64 M] w (Made w (callsF l m)) := by
  subst hM
  exact (turndownlaw07_calls.calls _ A c l m _ w hr hc (calls25_f l m hm)).mono fun e w' h => by
    obtain ⟨v, rfl, h1, h2⟩ := h
    exact made_of h1 h2
theorem list_made (A : Option Addr) (c : Nat) (l : List Int) (w : World) (hr : Kd.C (Kd.int .i64) w A l.length l) (hc : l.length ≤ c) :
    Calls Try.prog 13 #[.slice A l.length c] w (Made w (l.take 41)) :=
  (list_calls A c l w hr hc).mono fun e w' h => by
    obtain ⟨v, rfl, h1, h2⟩ := h
    exact made_of (Kd.R_mono h1 fun _ _ => trivial) h2
theorem served_calls (A C : Option Addr) (ca cc : Nat) (l : List (List Int)) (k : Nat) (hk1 : 1 ≤ k) (hk3 : k ≤ 3) (c : List Int) (hcl : c.length ≤ 1000) (w : World) (hr : Kd.C (Kd.slice 3 (Kd.int .i64)) w A l.length l) (hca : l.length ≤ ca) (hq : Kd.C (Kd.int .i64) w C c.length c) (hcc : c.length ≤ cc) :
    Calls Try.prog 26 #[.slice A l.length ca, .int .i64 k, .slice C c.length cc] w (Rowed w (servedF l k c)) :=
  (turndownlaw07_served.calls _ A ca l k C cc c _ w hr hca hq hcc (served_f l hk1 hk3 c hcl)).mono fun e w' h => by
    obtain ⟨v, rfl, h1, h2⟩ := h
    obtain ⟨A', c', rfl, h3, h4⟩ := Kd.S_reads h1
    exact ⟨A', c', rfl, h3, h4, h2⟩
end Go.Proofs.Ythadaajgjloogaa.L

namespace Go.Proofs.Ythadaajgjloogaa.L
open Go.RowKit Go.Shelf Go.Proofs.YthadaajgjloogaaW.PrintWords Go.Proofs.YthadaajgjloogaaW.PrintLast Go.Proofs.YthadaajgjloogaaW.PrintMore

/-! ### the exported functions in one form -/
/-- A schedule, its cost, no error. -/
def Sched (w : World) (rows : List (List Int)) (n : Int) (e : Ending) (w' : World) : Prop :=
  ∃ A c, e = .returned (.tuple #[.slice A rows.length c, .int .i64 n, .int .i64 0]) ∧ rows.length ≤ c ∧ Kd.C (Kd.slice 3 (Kd.int .i64)) w' A rows.length rows ∧ Below w.heap.size w w'
theorem sched_of {w w' : World} {rows : List (List Int)} {n : Int} {v : Value} {B : Nat} (hr : Rows w' B v rows) (hb : Below w.heap.size w w') : Sched w rows n (.returned (.tuple #[v, .int .i64 n, .int .i64 0])) w' := by
  obtain ⟨A, c, rfl, h1, h2⟩ := Kd.R_reads hr
  exact ⟨A, c, rfl, h1, h2, hb⟩
section
variable (A B : Option Addr) (ca cb : Nat) (s c : List Int) (w : World) (hh : hallB s c = true) (hr : Kd.C (Kd.int .i64) w A s.length s) (hq : Kd.C (Kd.int .i64) w B c.length c)
include hh hr hq
theorem Careful_s : Calls Try.prog 27 #[.slice A s.length ca, .slice B c.length cb] w (Sched w (runL cS s c) (runC cS s c)) :=
  (Careful_yes A B ca cb s c w hr hq hh).mono fun e w' ⟨v, he, h1, h2⟩ => by rw [he]; exact sched_of h1 h2
theorem Nearest_s : Calls Try.prog 38 #[.slice A s.length ca, .slice B c.length cb] w (Sched w (runL nS s c) (runC nS s c)) :=
  (Nearest_yes A B ca cb s c w hr hq hh).mono fun e w' ⟨v, he, h1, h2⟩ => by rw [he]; exact sched_of h1 h2
theorem Foresee_s : Calls Try.prog 32 #[.slice A s.length ca, .slice B c.length cb] w (Sched w (forL s c) (forC s c)) :=
  (Foresee_yes A B ca cb s c w hr hq hh).mono fun e w' ⟨v, he, h1, h2⟩ => by rw [he]; exact sched_of h1 h2
theorem Best_s : Calls Try.prog 30 #[.slice A s.length ca, .slice B c.length cb] w (Sched w (bestL s c) (bestC s c)) :=
  (Best_yes A B ca cb s c w hr hq hh).mono fun e w' ⟨v, he, h1, h2⟩ => by rw [he]; exact sched_of h1 h2
theorem Cost_s (D : Option Addr) (cd : Nat) (l : List (List Int)) (n : Int) (hl : schedB s.length c l = true) (hn : costTo s l c.length = n) (hd : Kd.C (Kd.slice 3 (Kd.int .i64)) w D l.length l) :
    Calls Try.prog 28 #[.slice A s.length ca, .slice B c.length cb, .slice D l.length cd] w fun e w' => e = .returned (.tuple #[.int .i64 n, .int .i64 0]) ∧ Below w.heap.size w w' := by
  have h := Cost_calls A B D ca cb cd s c l w hr hq hd
  have e : ansK s c l = .tuple #[.int .i64 n, .int .i64 0] := by simp [ansK, hh, hl, (sched_rows hl).1, hn]
  rw [e] at h
  exact h
theorem Work_s (E : Option Addr) (ce : Nat) (t : List Int) (ht : t ∈ allP s.length) (he : Kd.C (Kd.int .i64) w E t.length t) :
    Calls Try.prog 14 #[.slice A s.length ca, .slice B c.length cb, .slice E t.length ce] w fun e w' => e = .returned (.tuple #[.int .i64 (workF s c t), .int .i64 0]) ∧ Below w.heap.size w w' := by
  obtain ⟨⟨_, hk1, hk3⟩, _, _⟩ := hallB_parts hh
  exact Work_yes A B E ca cb ce s c t w hr hq he (by simp [workB, hh, posB_of_allP hk1 hk3 ht, allP_len ht])
end
theorem Pot_s {k : Nat} (hk1 : 1 ≤ k) (hk3 : k ≤ 3) (A B : Option Addr) (ca cb : Nat) (a b : List Int) (w : World) (ha : a ∈ allP k) (hb : b ∈ allP k) (hr : Kd.C (Kd.int .i64) w A a.length a) (hca : a.length ≤ ca) (hq : Kd.C (Kd.int .i64) w B b.length b) :
    Calls Try.prog 21 #[.slice A a.length ca, .slice B b.length cb] w fun e w' => e = .returned (.tuple #[.int .i64 (potF a b), .int .i64 0]) ∧ Below w.heap.size w w' :=
  Potential_yes A B ca cb a b w hr hq hca (by simp [potB, posB_of_allP hk1 hk3 ha, posB_of_allP hk1 hk3 hb, allP_len ha, allP_len hb])
theorem best_costTo (s c : List Int) : costTo s (bestL s c) c.length = bestC s c := rfl
end Go.Proofs.Ythadaajgjloogaa.L

namespace Go.Proofs.Ythadaajgjloogaa.L
open Go.RowKit Go.Proofs.YthadaajgjloogaaW.PrintWords

/-! ### rows of rows, as an argument -/
def IsRows (w : World) (a : Option Addr) (len cap : Nat) : Prop := ∃ rows : List (List Int), len = rows.length ∧ Kd.C (Kd.slice 3 (Kd.int .i64)) w a rows.length rows ∧ rows.length ≤ cap
theorem isRows_nil (w : World) : IsRows w none 0 0 := ⟨[], rfl, ⟨rfl, by simp, fun h => by simp at h⟩, Nat.le_refl _⟩
theorem isRows_of {w : World} {a : Addr} {len cap : Nat} {A : Nat → Option Addr} {L C : Nat → Nat} {Z : Nat → List Int} (hl : len ≤ cap) (hm : cap ≤ maxLen)
    (h : ∀ r, r < cap → w.cell? (a.add r) = some (.slice (A r) (L r) (C r)) ∧ L r ≤ C r ∧ C r ≤ maxLen ∧ (Z r).length = C r ∧ (A r = none → C r = 0) ∧ ∀ a', A r = some a' → ∀ c, c < C r → w.cell? (a'.add c) = some (.int .i64 ((Z r).getD c 0))) :
    IsRows w (some a) len cap := by
  have hml : maxLen ≤ 9223372036854775807 := by unfold maxLen; omega
  refine ⟨(List.range len).map fun r => (Z r).take (L r), by simp, ⟨rfl, by simp; omega, fun _ => ⟨a, rfl, fun j p hj => ?_⟩⟩, by simpa using hl⟩
  obtain ⟨hj1, hj2⟩ := List.getElem?_eq_some_iff.1 hj
  have hjl : j < len := by simpa using hj1
  simp only [List.getElem_map, List.getElem_range] at hj2
  subst hj2
  obtain ⟨h1, h2, h3, h4, h5, h6⟩ := h j (by omega)
  have hlen : ((Z j).take (L j)).length = L j := by rw [List.length_take]; omega
  refine ⟨[.slice (A j) (L j) (C j)], rfl, ⟨A j, C j, by rw [hlen], by omega, ?_⟩, fun i u hu => ?_⟩
  · refine ⟨rfl, by omega, fun hn => ?_⟩
    cases hA : A j with
    | none => have := h5 hA; omega
    | some a' =>
      refine ⟨a', rfl, fun i q hq => ?_⟩
      obtain ⟨hi1, hi2⟩ := List.getElem?_eq_some_iff.1 hq
      have hiL : i < L j := by omega
      rw [List.getElem_take] at hi2
      refine ⟨[.int .i64 q], rfl, rfl, fun m v hv => ?_⟩
      cases m with
      | zero =>
        simp at hv
        subst hv
        have := h6 a' hA i (by omega)
        rw [show (i * (Kd.int .i64).sz + 0) = i from by simp [Kd.int, Kd.scalar], this]
        simp [List.getD, show i < (Z j).length by omega, hi2]
      | succ m => simp at hv
  · cases i with
    | zero =>
      simp at hu
      subst hu
      rw [show (j * (Kd.slice 3 (Kd.int .i64)).sz + 0) = j from by simp [Kd.slice]]
      exact h1
    | succ i => simp at hu
end Go.Proofs.Ythadaajgjloogaa.L

