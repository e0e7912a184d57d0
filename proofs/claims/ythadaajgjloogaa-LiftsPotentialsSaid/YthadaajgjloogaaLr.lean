import Derived.Test.YthadaajgjloogaaLq
import Derived.Maps.Range
namespace Go.Proofs.Ythadaajgjloogaa.L
open Go.RowKit Go.Shelf Go.Proofs.YthadaajgjloogaaW.PrintWords Go.Proofs.YthadaajgjloogaaW.PrintLast Go.Proofs.YthadaajgjloogaaW.PrintMore

/-! ### sorted positions -/
theorem gen_of_sorted : ∀ (d : Nat) (r p : List Int) (f : Nat), r.length = d → (∀ y ∈ r, (f : Int) ≤ y ∧ y ≤ 30) → r.Pairwise (· ≤ ·) → p ++ r ∈ gen d p f
  | 0, r, p, f, hr, _, _ => by
    have : r = [] := List.length_eq_zero_iff.1 hr
    simp [gen, this]
  | d + 1, [], p, f, hr, _, _ => by simp at hr
  | d + 1, y :: r, p, f, hr, hb, hs => by
    have hy := hb y (by simp)
    obtain ⟨h1, h2⟩ := List.pairwise_cons.1 hs
    simp only [gen, List.mem_flatMap, List.mem_range]
    refine ⟨y.toNat - f, by omega, ?_⟩
    have e : ((f + (y.toNat - f) : Nat) : Int) = y := by omega
    have := gen_of_sorted d r (p ++ [y]) (f + (y.toNat - f)) (by simpa using hr) (fun z hz => ⟨by rw [e]; exact h1 z hz, (hb z (by simp [hz])).2⟩) h2
    rw [e]
    simpa using this
theorem allP_of_sorted {k : Nat} {x : List Int} (h : Pos k x) (hs : x.Pairwise (· ≤ ·)) : x ∈ allP k := by
  have := gen_of_sorted k x [] 0 h.len (fun y hy => by have := h.all y hy; omega) hs
  simpa [allP] using this
theorem srt_sorted (s : List Int) : (srt s).Pairwise (· ≤ ·) := by
  have h := List.pairwise_mergeSort (le := fun x y : Int => decide (x ≤ y)) (fun a b c h1 h2 => by simp at *; omega) (fun a b => by simp; omega) s
  exact h.imp (by simp)
theorem srt_allP {k : Nat} {s : List Int} (h : Pos k s) : srt s ∈ allP k := allP_of_sorted h.srt (srt_sorted s)
theorem pos_set {k : Nat} {s : List Int} (h : Pos k s) (i : Nat) {x : Int} (hx : 0 ≤ x ∧ x ≤ 30) : Pos k (s.set i x) := ⟨by simp [h.len], fun y hy => by
  rcases List.mem_or_eq_of_mem_set hy with h1 | h1
  · exact h.all y h1
  · rw [h1]; exact hx⟩

/-! ### the works after one more call, as numbers -/
def aftV (f : List Int → Int) (x : Int) (p : List Int) (i : Nat) : Int := f (srt (p.set i x)) + ab (rd p i) x
def aftB (f : List Int → Int) (x : Int) (p : List Int) : Nat → Int
  | 0 => aftV f x p 0
  | j + 1 => if aftV f x p (j + 1) < aftB f x p j then aftV f x p (j + 1) else aftB f x p j
def aftF (k : Nat) (f : List Int → Int) (x : Int) (p : List Int) : Int := aftB f x p (k - 1)
theorem ab_r30 {a b : Int} (ha : 0 ≤ a ∧ a ≤ 30) (hb : 0 ≤ b ∧ b ≤ 30) : 0 ≤ ab a b ∧ ab a b ≤ 30 := by unfold ab; split <;> omega
theorem aftV_range {k : Nat} {f : List Int → Int} {B : Int} (hf : ∀ p ∈ allP k, 0 ≤ f p ∧ f p ≤ B) {x : Int} (hx : 0 ≤ x ∧ x ≤ 30) {p : List Int} (hp : Pos k p) {i : Nat} (hi : i < k) : 0 ≤ aftV f x p i ∧ aftV f x p i ≤ B + 30 := by
  have h1 := hf _ (srt_allP (pos_set hp i hx))
  have h2 := ab_r30 (hp.all _ (rd_mem (by rw [hp.len]; exact hi))) hx
  unfold aftV; omega
theorem aftB_range {k : Nat} {f : List Int → Int} {B : Int} (hf : ∀ p ∈ allP k, 0 ≤ f p ∧ f p ≤ B) {x : Int} (hx : 0 ≤ x ∧ x ≤ 30) {p : List Int} (hp : Pos k p) : ∀ j, j < k → 0 ≤ aftB f x p j ∧ aftB f x p j ≤ B + 30
  | 0, h => aftV_range hf hx hp h
  | j + 1, h => by
    have h1 := aftB_range hf hx hp j (by omega)
    have h2 := aftV_range hf hx hp h
    unfold aftB; split <;> omega
theorem aftF_range {k : Nat} (hk : 1 ≤ k) {f : List Int → Int} {B : Int} (hf : ∀ p ∈ allP k, 0 ≤ f p ∧ f p ≤ B) {x : Int} (hx : 0 ≤ x ∧ x ≤ 30) {p : List Int} (hp : p ∈ allP k) : 0 ≤ aftF k f x p ∧ aftF k f x p ≤ B + 30 := aftB_range hf hx (allP_pos hp) _ (by omega)

/-- In block mb lies the map of all positions of k lifts to their f. -/
def MapF (W : World) (mb k : Nat) (f : List Int → Int) : Prop := ∃ l : List (List Int × Int), W.heap[mb]? = some (.map (entsOf l) l.length) ∧ (l.map (·.1)).Perm (allP k) ∧ ∀ p ∈ allP k, lookL l p = f p
theorem MapF.below {W W2 : World} {mb k : Nat} {f : List Int → Int} (h : MapF W mb k f) {B : Nat} (hm : mb < B) (hb : Below B W W2) : MapF W2 mb k f := by
  obtain ⟨l, h1, h2⟩ := h
  exact ⟨l, (hb.block _ hm).trans h1, h2⟩
theorem MapF.lt {W : World} {mb k : Nat} {f : List Int → Int} (h : MapF W mb k f) : mb < W.heap.size := by obtain ⟨l, h1, _⟩ := h; exact blk_lt h1

/-! ### the round over a map -/
def kyL (l : List (List Int × Int)) (j : Nat) : List Int := (l.getD j ([], 0)).1
def outL (l : List (List Int × Int)) (g : List Int → Int) (js : List Nat) : List (List Int × Int) := js.map fun j => (kyL l j, g (kyL l j))
theorem kyL_get {l : List (List Int × Int)} {j : Nat} (h : j < l.length) : kyL l j = l[j].1 := by simp [kyL, List.getD, h]
theorem left_mem {l : List (List Int × Int)} {js : List Nat} {e : MapEntry} (h : e ∈ (leftOf (entsOf l) js.toArray).toList) : ∃ j, j < l.length ∧ e.key = .agg (sp (kyL l j)) ∧ e.born = j ∧ j ∉ js := by
  simp only [leftOf, entsOf] at h
  simp only [Array.mem_toList_iff, Array.mem_filter, List.mem_toArray] at h
  obtain ⟨h1, h2⟩ := h
  rw [List.mem_mapIdx] at h1
  obtain ⟨j, hj, rfl⟩ := h1
  refine ⟨j, hj, by simp [entOf, kyL_get hj], rfl, ?_⟩
  simpa [entOf] using h2
theorem left_none {l : List (List Int × Int)} {js : List Nat} (h : (leftOf (entsOf l) js.toArray).size = 0) (j : Nat) (hj : j < l.length) : j ∈ js := by
  have h0 : leftOf (entsOf l) js.toArray = #[] := Array.eq_empty_of_size_eq_zero h
  simp only [leftOf, entsOf] at h0
  rw [Array.filter_eq_empty_iff] at h0
  have := h0 (entOf j l[j]) (by simp only [List.mem_toArray, List.mem_mapIdx]; exact ⟨j, hj, rfl⟩)
  simpa [entOf] using this
theorem left_lt {l : List (List Int × Int)} {js : List Nat} {j : Nat} (hj : j < l.length) (hn : j ∉ js) : (leftOf (entsOf l) (js ++ [j]).toArray).size < (leftOf (entsOf l) js.toArray).size := by
  have hm : entOf j l[j] ∈ (leftOf (entsOf l) js.toArray).toList := by
    simp only [leftOf, entsOf, Array.mem_toList_iff, Array.mem_filter, List.mem_toArray]
    exact ⟨List.mem_mapIdx.2 ⟨j, hj, rfl⟩, by simpa [entOf] using hn⟩
  have := left_shrinks (entsOf l) js.toArray _ hm
  simpa [entOf] using this
theorem born_lt (l : List (List Int × Int)) : ∀ x ∈ (entsOf l).toList, x.born < l.length := by
  intro x hx
  simp only [entsOf] at hx
  rw [List.mem_mapIdx] at hx
  obtain ⟨j, hj, rfl⟩ := hx
  exact hj
theorem born_nodup (l : List (List Int × Int)) : ((entsOf l).toList.map (·.born)).Nodup := by
  have : (entsOf l).toList.map (·.born) = List.range l.length := by
    simp only [entsOf]
    rw [List.mapIdx_eq_zipIdx_map]
    simp only [List.map_map]
    apply List.ext_getElem
    · simp
    · intro i h1 h2; simp [entOf]
  rw [this]; exact List.nodup_range
theorem kyL_inj {l : List (List Int × Int)} {k : Nat} (hp : (l.map (·.1)).Perm (allP k)) {i j : Nat} (hi : i < l.length) (hj : j < l.length) (h : kyL l i = kyL l j) : i = j := by
  have hn : (l.map (·.1)).Nodup := (hp.nodup_iff).2 (allP_nodup k)
  rw [kyL_get hi, kyL_get hj] at h
  have := (List.getElem_inj (xs := l.map (·.1)) (i := i) (j := j) (h₀ := by simpa using hi) (h₁ := by simpa using hj) hn).1 (by simpa using h)
  exact this
theorem kyL_allP {l : List (List Int × Int)} {k : Nat} (hp : (l.map (·.1)).Perm (allP k)) {i : Nat} (hi : i < l.length) : kyL l i ∈ allP k := by
  refine hp.mem_iff.1 ?_
  rw [kyL_get hi]
  exact List.mem_map.2 ⟨l[i], List.getElem_mem hi, rfl⟩
theorem out_fresh {l : List (List Int × Int)} {k : Nat} (hk : k ≤ 3) (hp : (l.map (·.1)).Perm (allP k)) {g : List Int → Int} {js : List Nat} (hjs : ∀ i ∈ js, i < l.length) {j : Nat} (hj : j < l.length) (hn : j ∉ js) : findL (kyL l j) (outL l g js) 0 = none := by
  refine findL_none _ _ fun q hq => ?_
  simp only [outL, List.mem_map] at hq
  obtain ⟨i, hi, rfl⟩ := hq
  cases h : eq3 (kyL l j) (kyL l i)
  · rfl
  · have e := (eq3_iff (allP_pos (kyL_allP hp hj)).len (allP_pos (kyL_allP hp (hjs i hi))).len hk).1 h
    exact absurd (kyL_inj hp hj (hjs i hi) e ▸ hi) hn
theorem outL_snoc (l : List (List Int × Int)) (g : List Int → Int) (js : List Nat) (j : Nat) : outL l g (js ++ [j]) = outL l g js ++ [(kyL l j, g (kyL l j))] := by simp [outL]
theorem out_all {l : List (List Int × Int)} {k : Nat} (hk : k ≤ 3) (hp : (l.map (·.1)).Perm (allP k)) {g : List Int → Int} {js : List Nat} (hd : js.Nodup) (hjs : ∀ i ∈ js, i < l.length) (hall : ∀ j, j < l.length → j ∈ js) :
    ((outL l g js).map (·.1)).Perm (allP k) ∧ ∀ p ∈ allP k, lookL (outL l g js) p = g p := by
  have hr : js.Perm (List.range l.length) := (List.perm_ext_iff_of_nodup hd List.nodup_range).2 fun i => by rw [List.mem_range]; exact ⟨hjs i, hall i⟩
  have e1 : (outL l g js).map (·.1) = js.map (kyL l) := by simp [outL]
  have e2 : (List.range l.length).map (kyL l) = l.map (·.1) := by
    apply List.ext_getElem
    · simp
    · intro i h1 h2
      simp only [List.length_map] at h2
      simp [kyL_get h2]
  have hP : ((outL l g js).map (·.1)).Perm (allP k) := by
    rw [e1]
    exact ((hr.map (kyL l)).trans (by rw [e2])).trans hp
  refine ⟨hP, fun p hpp => ?_⟩
  have hm := hP.mem_iff.2 hpp
  rw [e1] at hm
  obtain ⟨j, hj, rfl⟩ := List.mem_map.1 hm
  refine lookL_mem (List.mem_map.2 ⟨j, hj, rfl⟩) fun q hq he => ?_
  simp only [outL, List.mem_map] at hq
  obtain ⟨i, hi, rfl⟩ := hq
  have e := (eq3_iff (allP_pos (kyL_allP hp (hjs j hj))).len (allP_pos (kyL_allP hp (hjs i hi))).len hk).1 he
  rw [e]

theorem first_MapF {W : World} {mb k : Nat} (hk : k ≤ 3) (s : List Int) (h : W.heap[mb]? = some (.map (entsOf (firstL s (allP k))) (firstL s (allP k)).length)) : MapF W mb k (distF s) := by
  refine ⟨_, h, by simp [firstL, Function.comp_def], fun p hp => lookL_mem (List.mem_map.2 ⟨p, hp, rfl⟩) fun q hq he => ?_⟩
  simp only [firstL, List.mem_map] at hq
  obtain ⟨p', hp', rfl⟩ := hq
  have e := (eq3_iff (allP_pos hp).len (allP_pos hp').len hk).1 he
  rw [e]
end Go.Proofs.Ythadaajgjloogaa.L
