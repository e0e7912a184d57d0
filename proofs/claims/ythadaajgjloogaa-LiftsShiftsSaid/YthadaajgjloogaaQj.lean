import Derived.Test.YthadaajgjloogaaQg
namespace Go.Proofs.Ythadaajgjloogaa.L
open Go.RowKit Go.Shelf Go.Proofs.YthadaajgjloogaaW.PrintWords Go.Proofs.YthadaajgjloogaaW.PrintLast Go.Proofs.YthadaajgjloogaaW.PrintMore

/-! ### turning and shifting: schedules go over -/
theorem rL_map (F : List Int → List Int) {l : List (List Int)} {i : Nat} (h : i < l.length) : rL (l.map F) i = F (rL l i) := by
  rw [rL_get _ _ (by simpa using h), rL_get _ _ h]; simp
theorem rd_map (φ : Int → Int) {c : List Int} {i : Nat} (h : i < c.length) : rd (c.map φ) (i : Int) = φ (rd c i) := by
  simp [rd, List.getD, h]
section
variable {k : Nat} {F : List Int → List Int} {φ : Int → Int}
theorem nowAt_map (s : List Int) (l : List (List Int)) : ∀ j, j ≤ l.length → nowAt (F s) (l.map F) j = F (nowAt s l j)
  | 0, _ => rfl
  | j + 1, h => rL_map F (by omega)
theorem cost_map (hF : ∀ p ∈ allP k, F p ∈ allP k) (hd : ∀ p ∈ allP k, ∀ q ∈ allP k, dR (F p) (F q) ≤ dR p q) (s : List Int) (l : List (List Int)) (hs : s ∈ allP k) (hl : ∀ i, i < l.length → rL l i ∈ allP k) : ∀ j, j ≤ l.length → costTo (F s) (l.map F) j ≤ costTo s l j
  | 0, _ => by simp [costTo]
  | j + 1, h => by
    have ih := cost_map hF hd s l hs hl j (by omega)
    have hn : nowAt s l j ∈ allP k := by
      cases j with
      | zero => exact hs
      | succ j => exact hl j (by omega)
    have hr := hl j (by omega)
    have := hd _ hn _ hr
    show costTo (F s) (l.map F) j + distF (nowAt (F s) (l.map F) j) (rL (l.map F) j) ≤ costTo s l j + distF (nowAt s l j) (rL l j)
    rw [nowAt_map s l j (by omega), rL_map F (by omega), distF_dR _ _ (by rw [allP_len (hF _ hn), allP_len (hF _ hr)]), distF_dR _ _ (by rw [allP_len hn, allP_len hr])]
    omega
/-- The best cost does not grow if all goes over by a map that brings nothing apart. -/
theorem best_map {s c : List Int} (hk : s.length = k) (hh : hallB s c = true) (hh' : hallB (F s) (c.map φ) = true) (hF : ∀ p ∈ allP k, F p ∈ allP k) (hx : ∀ p ∈ allP k, ∀ x ∈ p, φ x ∈ F p) (hd : ∀ p ∈ allP k, ∀ q ∈ allP k, dR (F p) (F q) ≤ dR p q) : bestC (F s) (c.map φ) ≤ bestC s c := by
  subst hk
  obtain ⟨⟨_, hk1, hk3⟩, _, _⟩ := hallB_parts hh
  have hs := posB_allP (posB_s hh)
  have hFs := allP_len (hF _ hs)
  obtain ⟨hlen, hr⟩ := sched_rows (best_sched hh)
  have hsch : schedB (F s).length (c.map φ) ((bestL s c).map F) = true := by
    simp only [schedB, Bool.and_eq_true, decide_eq_true_eq]
    refine ⟨by simp [hlen], fun j hj => ?_⟩
    have hj' : j < c.length := by simpa [hlen] using hj
    obtain ⟨h1, h2⟩ := row_allP (hr j hj')
    simp only [rowB, Bool.and_eq_true, decide_eq_true_eq]
    rw [rL_map F (by omega), rd_map φ hj', hFs]
    exact ⟨⟨posB_of_allP hk1 hk3 (hF _ h1), allP_len (hF _ h1)⟩, hx _ h1 _ h2⟩
  have h1 := bestC_least hh' hsch
  have h2 := cost_map hF hd s (bestL s c) hs (fun i hi => (row_allP (hr i (by omega))).1) c.length (by omega)
  rw [List.length_map] at h1
  unfold bestC at h1 ⊢
  omega
/-- The careful way goes over. -/
theorem careful_map {s c : List Int} (Q : List Int → Prop) (hQ0 : Q s) (hQ : ∀ p x, Q p → x ∈ c → Q (carefulF p x)) (hcom : ∀ p x, Q p → x ∈ c → carefulF (F p) (φ x) = F (carefulF p x)) (hd : ∀ p q, Q p → Q q → distF (F p) (F q) = distF p q) : ∀ j, j ≤ c.length →
    Q (stepS cS () s c j).2.1 ∧ (stepS cS () (F s) (c.map φ) j).2.1 = F (stepS cS () s c j).2.1 ∧ (stepS cS () (F s) (c.map φ) j).2.2.2 = (stepS cS () s c j).2.2.2
  | 0, _ => ⟨hQ0, rfl, rfl⟩
  | j + 1, h => by
    obtain ⟨h1, h2, h3⟩ := careful_map Q hQ0 hQ hcom hd j (by omega)
    have hm : rd c (j : Int) ∈ c := rd_mem (by omega)
    have h4 := hQ _ _ h1 hm
    simp only [stepS, cS]
    rw [rd_map φ (by omega), h2, h3, hcom _ _ h1 hm, hd _ _ h1 h4]
    exact ⟨h4, rfl, rfl⟩
end
/-! ### by shifting -/
def upF (b : Int) (x : Int) : Int := (if x ≤ 20 then x else 20) + b
def dnF (b : Int) (x : Int) : Int := if b ≤ x then x - b else 0
theorem up_cases (b x : Int) : (x ≤ 20 ∧ upF b x = x + b) ∨ (20 ≤ x ∧ upF b x = 20 + b) := by unfold upF; split <;> omega
theorem dn_cases (b x : Int) : (b ≤ x ∧ dnF b x = x - b) ∨ (x ≤ b ∧ dnF b x = 0) := by unfold dnF; split <;> omega
theorem dR_map_le (φ : Int → Int) (h : ∀ x y, ab (φ x) (φ y) ≤ ab x y) : ∀ (p q : List Int), dR (p.map φ) (q.map φ) ≤ dR p q
  | [], _ => by simp [dR]
  | _ :: _, [] => by simp [dR]
  | a :: p, b :: q => by have := dR_map_le φ h p q; have := h a b; simp only [List.map_cons, dR]; omega
theorem map_allP {k : Nat} {φ : Int → Int} (hm : ∀ x y, x ≤ y → φ x ≤ φ y) (hr : ∀ x, 0 ≤ x ∧ x ≤ 30 → 0 ≤ φ x ∧ φ x ≤ 30) {p : List Int} (h : p ∈ allP k) : p.map φ ∈ allP k := by
  have hp := allP_pos h
  refine allP_of_sorted ⟨by simp [hp.len], fun y hy => ?_⟩ (List.pairwise_map.2 ((allP_sorted h).imp fun hxy => hm _ _ hxy))
  obtain ⟨x, hx, rfl⟩ := List.mem_map.1 hy
  exact hr x (hp.all x hx)
theorem upF_ok {b : Int} (hb : 0 ≤ b ∧ b ≤ 10) : (∀ x y, x ≤ y → upF b x ≤ upF b y) ∧ (∀ x, 0 ≤ x ∧ x ≤ 30 → 0 ≤ upF b x ∧ upF b x ≤ 30) ∧ (∀ x y, ab (upF b x) (upF b y) ≤ ab x y) := by
  refine ⟨fun x y h => ?_, fun x h => ?_, fun x y => ?_⟩
  · unfold upF; split <;> split <;> omega
  · unfold upF; split <;> omega
  · have h1 := ab_cases x y
    have h2 := ab_cases (upF b x) (upF b y)
    have h3 := up_cases b x
    have h4 := up_cases b y
    omega
theorem dnF_ok {b : Int} (hb : 0 ≤ b ∧ b ≤ 10) : (∀ x y, x ≤ y → dnF b x ≤ dnF b y) ∧ (∀ x, 0 ≤ x ∧ x ≤ 30 → 0 ≤ dnF b x ∧ dnF b x ≤ 30) ∧ (∀ x y, ab (dnF b x) (dnF b y) ≤ ab x y) := by
  refine ⟨fun x y h => ?_, fun x h => ?_, fun x y => ?_⟩
  · unfold dnF; split <;> split <;> omega
  · unfold dnF; split <;> omega
  · have h1 := ab_cases x y
    have h2 := ab_cases (dnF b x) (dnF b y)
    have h3 := dn_cases b x
    have h4 := dn_cases b y
    omega
theorem up_id {b : Int} {l : List Int} (h : ∀ x ∈ l, x ≤ 20) : l.map (upF b) = l.map (· + b) := List.map_congr_left fun x hx => by have := h x hx; simp [upF, this]
theorem dn_up {b : Int} {l : List Int} (h : ∀ x ∈ l, 0 ≤ x) : (l.map (· + b)).map (dnF b) = l := by
  rw [List.map_map]
  conv => rhs; rw [← List.map_id l]
  refine List.map_congr_left fun x hx => ?_
  have := h x hx
  simp only [Function.comp, dnF, id]
  split <;> omega
theorem hall_shift {s c : List Int} (hh : hallB s c = true) (hs : ∀ x ∈ s, x ≤ 20) (hc : ∀ x ∈ c, x ≤ 20) {b : Int} (hb : 0 ≤ b ∧ b ≤ 10) : hallB (s.map (· + b)) (c.map (· + b)) = true := by
  obtain ⟨⟨hpos, hk1, hk3⟩, h40, hcs⟩ := hallB_parts hh
  have h1 := map_allP (upF_ok hb).1 (upF_ok hb).2.1 (posB_allP (posB_s hh))
  rw [up_id hs] at h1
  have h2 := posB_of_allP hk1 hk3 h1
  simp only [hallB, Bool.and_eq_true]
  refine ⟨h2, (callsB_iff _).2 ⟨by simpa using h40, fun y hy => ?_⟩⟩
  obtain ⟨x, hx, rfl⟩ := List.mem_map.1 hy
  have := hc x hx; have := hcs x hx
  omega
theorem best_shift {s c : List Int} (hh : hallB s c = true) (hs : ∀ x ∈ s, x ≤ 20) (hc : ∀ x ∈ c, x ≤ 20) {b : Int} (hb : 0 ≤ b ∧ b ≤ 10) : bestC (s.map (· + b)) (c.map (· + b)) = bestC s c := by
  obtain ⟨⟨hpos, hk1, hk3⟩, h40, hcs⟩ := hallB_parts hh
  have hh' := hall_shift hh hs hc hb
  refine Int.le_antisymm ?_ ?_
  · have h := best_map (k := s.length) (F := fun p => p.map (upF b)) (φ := upF b) rfl hh (by rw [up_id hs, up_id hc]; exact hh') (fun p hp => map_allP (upF_ok hb).1 (upF_ok hb).2.1 hp) (fun p _ x hx => List.mem_map.2 ⟨x, hx, rfl⟩) (fun p _ q _ => dR_map_le _ (upF_ok hb).2.2 p q)
    simp only [up_id hs, up_id hc] at h
    exact h
  · have h := best_map (s := s.map (· + b)) (c := c.map (· + b)) (k := s.length) (F := fun p => p.map (dnF b)) (φ := dnF b) (by simp) hh' (by rw [dn_up (fun x hx => (hpos.all x hx).1), dn_up (fun x hx => (hcs x hx).1)]; exact hh) (fun p hp => map_allP (dnF_ok hb).1 (dnF_ok hb).2.1 hp) (fun p _ x hx => List.mem_map.2 ⟨x, hx, rfl⟩) (fun p _ q _ => dR_map_le _ (dnF_ok hb).2.2 p q)
    simp only [dn_up (fun x hx => (hpos.all x hx).1), dn_up (fun x hx => (hcs x hx).1)] at h
    exact h
theorem dR_shift (b : Int) : ∀ (p q : List Int), dR (p.map (· + b)) (q.map (· + b)) = dR p q
  | [], _ => by simp [dR]
  | _ :: _, [] => by simp [dR]
  | x :: p, y :: q => by
    have := dR_shift b p q
    have h1 := ab_cases x y
    have h2 := ab_cases (x + b) (y + b)
    simp only [List.map_cons, dR]; omega
theorem mid_shift (a b x d : Int) : mid (a + d) (b + d) (x + d) = mid a b x := by unfold mid; split <;> split <;> omega
theorem careful_shift {k : Nat} (h1 : 1 ≤ k) (h3 : k ≤ 3) {p : List Int} (h : p ∈ allP k) (x d : Int) : carefulF (p.map (· + d)) (x + d) = (carefulF p x).map (· + d) := by
  cases shape_of h1 h3 h with
  | one a _ _ => simp [careful1]
  | two a b g0 g1 g2 =>
    simp only [List.map_cons, List.map_nil]
    rw [careful2 _ _ _ (show a + d ≤ b + d by omega), careful2 _ _ _ g1]
    by_cases c1 : x = a ∨ x = b
    · rw [if_pos (by omega), if_pos c1]; simp
    · rw [if_neg (by omega), if_neg c1]
      by_cases c2 : x < a
      · rw [if_pos (by omega), if_pos c2]; simp
      · rw [if_neg (by omega), if_neg c2]
        by_cases c3 : b < x
        · rw [if_pos (by omega), if_pos c3]; simp
        · rw [if_neg (by omega), if_neg c3, mid_shift]; simp; omega
  | three a b c g0 g1 g2 g3 =>
    simp only [List.map_cons, List.map_nil]
    rw [careful3 _ _ _ _ (show a + d ≤ b + d by omega) (show b + d ≤ c + d by omega), careful3 _ _ _ _ g1 g2]
    by_cases c1 : x = a ∨ x = b ∨ x = c
    · rw [if_pos (by omega), if_pos c1]; simp
    · rw [if_neg (by omega), if_neg c1]
      by_cases c2 : x < a
      · rw [if_pos (by omega), if_pos c2]; simp
      · rw [if_neg (by omega), if_neg c2]
        by_cases c3 : c < x
        · rw [if_pos (by omega), if_pos c3]; simp
        · rw [if_neg (by omega), if_neg c3]
          by_cases c4 : x < b
          · rw [if_pos (by omega), if_pos c4, mid_shift]; simp; omega
          · rw [if_neg (by omega), if_neg c4, mid_shift]; simp; omega
theorem careful_low20 {k : Nat} (h1 : 1 ≤ k) (h3 : k ≤ 3) {p : List Int} (h : p ∈ allP k) (hp : ∀ y ∈ p, y ≤ 20) {x : Int} (hx : x ≤ 20) : ∀ y ∈ carefulF p x, y ≤ 20 := by
  cases shape_of h1 h3 h with
  | one a _ _ => simp [careful1]; exact hx
  | two a b g0 g1 g2 =>
    simp at hp
    rw [careful2 _ _ _ g1]
    have := mid_cases a b x
    split
    · simp; omega
    · split
      · simp; omega
      · split
        · simp; omega
        · simp; omega
  | three a b c g0 g1 g2 g3 =>
    simp at hp
    rw [careful3 _ _ _ _ g1 g2]
    have := mid_cases a b x
    have := mid_cases b c x
    split
    · simp; omega
    · split
      · simp; omega
      · split
        · simp; omega
        · split
          · simp; omega
          · simp; omega
theorem run_shift {s c : List Int} (hh : hallB s c = true) (hs : ∀ x ∈ s, x ≤ 20) (hc : ∀ x ∈ c, x ≤ 20) (b : Int) : ∀ j, j ≤ c.length →
    (stepS cS () (s.map (· + b)) (c.map (· + b)) j).2.1 = (stepS cS () s c j).2.1.map (· + b) ∧ (stepS cS () (s.map (· + b)) (c.map (· + b)) j).2.2.2 = (stepS cS () s c j).2.2.2 := by
  obtain ⟨⟨hpos, hk1, hk3⟩, h40, hcs⟩ := hallB_parts hh
  intro j hj
  exact (careful_map (F := fun p => p.map (· + b)) (φ := (· + b)) (fun p => p ∈ allP s.length ∧ ∀ y ∈ p, y ≤ 20) ⟨posB_allP (posB_s hh), hs⟩ (fun p x hp hx => ⟨(careful_ok hk1 hk3 hp.1 (hcs x hx)).1, careful_low20 hk1 hk3 hp.1 hp.2 (hc x hx)⟩) (fun p x hp _ => careful_shift hk1 hk3 hp.1 x b) (fun p q hp hq => by rw [distF_dR _ _ (by simp [allP_len hp.1, allP_len hq.1]), distF_dR _ _ (by rw [allP_len hp.1, allP_len hq.1])]; exact dR_shift b p q) j hj).2
/-! ### by turning around -/
def tuF (p : List Int) : List Int := (p.map fun x => 30 - x).reverse
theorem tu_allP {k : Nat} {p : List Int} (h : p ∈ allP k) : tuF p ∈ allP k := by
  have hp := allP_pos h
  refine allP_of_sorted ⟨by simp [tuF, hp.len], fun y hy => ?_⟩ ?_
  · simp only [tuF, List.mem_reverse, List.mem_map] at hy
    obtain ⟨x, hx, rfl⟩ := hy
    have := hp.all x hx
    omega
  · unfold tuF
    rw [List.pairwise_reverse, List.pairwise_map]
    exact (allP_sorted h).imp fun hxy => by omega
theorem tu_tu (p : List Int) : tuF (tuF p) = p := by
  simp only [tuF, List.map_reverse, List.reverse_reverse, List.map_map]
  conv => rhs; rw [← List.map_id p]
  exact List.map_congr_left fun x _ => by simp only [Function.comp, id]; omega
theorem turn_turn (c : List Int) : (c.map fun x => 30 - x).map (fun x => 30 - x) = c := by
  rw [List.map_map]
  conv => rhs; rw [← List.map_id c]
  exact List.map_congr_left fun x _ => by simp only [Function.comp, id]; omega
theorem dR_snoc : ∀ (p q : List Int) (a b : Int), p.length = q.length → dR (p ++ [a]) (q ++ [b]) = dR p q + ab a b
  | [], [], a, b, _ => by simp [dR]
  | [], _ :: _, _, _, h => by simp at h
  | _ :: _, [], _, _, h => by simp at h
  | x :: p, y :: q, a, b, h => by
    have := dR_snoc p q a b (by simpa using h)
    simp only [List.cons_append, dR]; omega
theorem dR_turn : ∀ (p q : List Int), p.length = q.length → dR (tuF p) (tuF q) = dR p q
  | [], [], _ => rfl
  | [], _ :: _, h => by simp at h
  | _ :: _, [], h => by simp at h
  | x :: p, y :: q, h => by
    have ih := dR_turn p q (by simpa using h)
    have h1 := ab_cases x y
    have h2 := ab_cases (30 - x) (30 - y)
    unfold tuF at ih ⊢
    simp only [List.map_cons, List.reverse_cons, dR]
    rw [dR_snoc _ _ _ _ (by simp; simpa using h), ih]
    omega
theorem hall_turn {s c : List Int} (hh : hallB s c = true) : hallB (tuF s) (c.map fun x => 30 - x) = true := by
  obtain ⟨⟨hpos, hk1, hk3⟩, h40, hcs⟩ := hallB_parts hh
  simp only [hallB, Bool.and_eq_true]
  refine ⟨posB_of_allP hk1 hk3 (tu_allP (posB_allP (posB_s hh))), (callsB_iff _).2 ⟨by simpa using h40, fun y hy => ?_⟩⟩
  obtain ⟨x, hx, rfl⟩ := List.mem_map.1 hy
  have := hcs x hx
  omega
theorem best_turn_le {s c : List Int} (hh : hallB s c = true) : bestC (tuF s) (c.map fun x => 30 - x) ≤ bestC s c :=
  best_map (k := s.length) (F := tuF) (φ := fun x => 30 - x) rfl hh (hall_turn hh) (fun _ hp => tu_allP hp) (fun p _ x hx => by simp only [tuF, List.mem_reverse, List.mem_map]; exact ⟨x, hx, rfl⟩) (fun p hp q hq => Int.le_of_eq (dR_turn p q (by rw [allP_len hp, allP_len hq])))
theorem best_turn {s c : List Int} (hh : hallB s c = true) : bestC (tuF s) (c.map fun x => 30 - x) = bestC s c := by
  refine Int.le_antisymm (best_turn_le hh) ?_
  have h := best_turn_le (hall_turn hh)
  rw [tu_tu, turn_turn] at h
  exact h
theorem mid_turn (a b x : Int) : mid (30 - b) (30 - a) (30 - x) = mid a b x := by unfold mid; split <;> split <;> omega
theorem careful_turn {k : Nat} (h1 : 1 ≤ k) (h3 : k ≤ 3) {p : List Int} (h : p ∈ allP k) (x : Int) : carefulF (tuF p) (30 - x) = tuF (carefulF p x) := by
  cases shape_of h1 h3 h with
  | one a _ _ => simp [careful1, tuF]
  | two a b g0 g1 g2 =>
    have e : tuF [a, b] = [30 - b, 30 - a] := by simp [tuF]
    rw [e, careful2 _ _ _ (show 30 - b ≤ 30 - a by omega), careful2 _ _ _ g1]
    by_cases c1 : x = a ∨ x = b
    · rw [if_pos (by omega), if_pos c1]; simp [tuF]
    · rw [if_neg (by omega), if_neg c1]
      by_cases c2 : x < a
      · rw [if_neg (by omega), if_pos (by omega), if_pos c2]; simp [tuF]
      · by_cases c3 : b < x
        · rw [if_pos (by omega), if_neg c2, if_pos c3]; simp [tuF]
        · rw [if_neg (by omega), if_neg (by omega), if_neg c2, if_neg c3, mid_turn]; simp [tuF]; omega
  | three a b c g0 g1 g2 g3 =>
    have e : tuF [a, b, c] = [30 - c, 30 - b, 30 - a] := by simp [tuF]
    rw [e, careful3 _ _ _ _ (show 30 - c ≤ 30 - b by omega) (show 30 - b ≤ 30 - a by omega), careful3 _ _ _ _ g1 g2]
    by_cases c1 : x = a ∨ x = b ∨ x = c
    · rw [if_pos (by omega), if_pos c1]; simp [tuF]
    · rw [if_neg (by omega), if_neg c1]
      by_cases c2 : x < a
      · rw [if_neg (by omega), if_pos (by omega), if_pos c2]; simp [tuF]
      · by_cases c3 : c < x
        · rw [if_pos (by omega), if_neg c2, if_pos c3]; simp [tuF]
        · rw [if_neg (by omega), if_neg (by omega), if_neg c2, if_neg c3]
          by_cases c4 : x < b
          · rw [if_neg (by omega), if_pos c4, mid_turn]; simp [tuF]; omega
          · rw [if_pos (by omega), if_neg c4, mid_turn]; simp [tuF]; omega
theorem run_turn {s c : List Int} (hh : hallB s c = true) : ∀ j, j ≤ c.length →
    (stepS cS () (tuF s) (c.map fun x => 30 - x) j).2.1 = tuF (stepS cS () s c j).2.1 ∧ (stepS cS () (tuF s) (c.map fun x => 30 - x) j).2.2.2 = (stepS cS () s c j).2.2.2 := by
  obtain ⟨⟨hpos, hk1, hk3⟩, h40, hcs⟩ := hallB_parts hh
  intro j hj
  exact (careful_map (F := tuF) (φ := fun x => 30 - x) (fun p => p ∈ allP s.length) (posB_allP (posB_s hh)) (fun p x hp hx => (careful_ok hk1 hk3 hp (hcs x hx)).1) (fun p x hp _ => careful_turn hk1 hk3 hp x) (fun p q hp hq => by rw [distF_dR _ _ (by rw [allP_len (tu_allP hp), allP_len (tu_allP hq)]), distF_dR _ _ (by rw [allP_len hp, allP_len hq])]; exact dR_turn p q (by rw [allP_len hp, allP_len hq])) j hj).2

/-! ### each call twice -/
def twF (c : List Int) : List Int := c.flatMap fun x => [x, x]
theorem tw_len : ∀ (c : List Int), (twF c).length = 2 * c.length
  | [] => rfl
  | x :: c => by have := tw_len c; simp only [twF, List.flatMap_cons, List.length_append, List.length_cons, List.length_nil] at this ⊢; omega
theorem rd_get (c : List Int) (i : Nat) : rd c (i : Int) = c.getD i 0 := by simp [rd]
theorem tw_get : ∀ (c : List Int) (i : Nat), (twF c).getD (2 * i) 0 = c.getD i 0 ∧ (twF c).getD (2 * i + 1) 0 = c.getD i 0
  | [], i => by simp [twF]
  | x :: c, 0 => by simp [twF]
  | x :: c, i + 1 => by
    have ih := tw_get c i
    have e : twF (x :: c) = x :: x :: twF c := by simp [twF]
    rw [e, show 2 * (i + 1) = 2 * i + 1 + 1 by omega]
    simpa using ih
theorem tw_rd (c : List Int) (i : Nat) : rd (twF c) ((2 * i : Nat) : Int) = rd c i ∧ rd (twF c) ((2 * i + 1 : Nat) : Int) = rd c i := by
  rw [rd_get, rd_get, rd_get]; exact tw_get c i
theorem tw_mem {c : List Int} {x : Int} (h : x ∈ twF c) : x ∈ c := by
  simp only [twF, List.mem_flatMap] at h
  obtain ⟨y, hy, hx⟩ := h
  simp at hx
  exact hx ▸ hy
theorem hall_twice {s c : List Int} (hh : hallB s c = true) (hl : c.length ≤ 20) : hallB s (twF c) = true := by
  obtain ⟨⟨hpos, hk1, hk3⟩, h40, hcs⟩ := hallB_parts hh
  simp only [hallB, Bool.and_eq_true]
  exact ⟨posB_s hh, (callsB_iff _).2 ⟨by rw [tw_len]; omega, fun y hy => hcs y (tw_mem hy)⟩⟩
theorem run_twice {s c : List Int} (hh : hallB s c = true) : ∀ j, j ≤ c.length → (stepS cS () s (twF c) (2 * j)).2.1 = (stepS cS () s c j).2.1 ∧ (stepS cS () s (twF c) (2 * j)).2.2.2 = (stepS cS () s c j).2.2.2
  | 0, _ => ⟨rfl, rfl⟩
  | j + 1, h => by
    obtain ⟨⟨hpos, hk1, hk3⟩, h40, hcs⟩ := hallB_parts hh
    obtain ⟨h1, h2⟩ := run_twice hh j (by omega)
    have hok := careful_ok hk1 hk3 (cS_ok hh j (by omega)) (hcs _ (rd_mem (show j < c.length by omega)))
    have hagain : carefulF (carefulF (stepS cS () s c j).2.1 (rd c j)) (rd c j) = carefulF (stepS cS () s c j).2.1 (rd c j) := by
      rw [carefulF, if_pos hok.2]
    rw [show 2 * (j + 1) = 2 * j + 1 + 1 by omega]
    simp only [stepS, cS]
    rw [(tw_rd c j).1, (tw_rd c j).2, h1, h2, hagain, distF_dR (carefulF _ _) (carefulF _ _) rfl, dR_self]
    exact ⟨rfl, by omega⟩
def dbl (l : List (List Int)) (n : Nat) : List (List Int) := (List.range (2 * n)).map fun i => rL l (i / 2)
def hlf (l : List (List Int)) (n : Nat) : List (List Int) := (List.range n).map fun i => rL l (2 * i + 1)
theorem dbl_rL (l : List (List Int)) {n i : Nat} (h : i < 2 * n) : rL (dbl l n) i = rL l (i / 2) := by rw [rL_get _ _ (by simpa [dbl] using h)]; simp [dbl]
theorem hlf_rL (l : List (List Int)) {n i : Nat} (h : i < n) : rL (hlf l n) i = rL l (2 * i + 1) := by rw [rL_get _ _ (by simpa [hlf] using h)]; simp [hlf]
theorem dbl_now (s : List Int) (l : List (List Int)) (n : Nat) : ∀ j, j ≤ n → nowAt s (dbl l n) (2 * j) = nowAt s l j
  | 0, _ => rfl
  | j + 1, h => by
    rw [show 2 * (j + 1) = (2 * j + 1) + 1 by omega]
    show rL (dbl l n) (2 * j + 1) = rL l j
    rw [dbl_rL l (by omega), show (2 * j + 1) / 2 = j by omega]
theorem dbl_cost (s : List Int) (l : List (List Int)) (n : Nat) : ∀ j, j ≤ n → costTo s (dbl l n) (2 * j) = costTo s l j
  | 0, _ => rfl
  | j + 1, h => by
    have ih := dbl_cost s l n j (by omega)
    rw [show 2 * (j + 1) = (2 * j + 1) + 1 by omega]
    show costTo s (dbl l n) (2 * j) + distF (nowAt s (dbl l n) (2 * j)) (rL (dbl l n) (2 * j)) + distF (rL (dbl l n) (2 * j)) (rL (dbl l n) (2 * j + 1)) = costTo s l j + distF (nowAt s l j) (rL l j)
    rw [dbl_now s l n j (by omega), dbl_rL l (by omega), dbl_rL l (by omega), show (2 * j) / 2 = j by omega, show (2 * j + 1) / 2 = j by omega, distF_dR (rL l j) (rL l j) rfl, dR_self, ih]
    omega
theorem hlf_now (s : List Int) (l : List (List Int)) (n : Nat) : ∀ j, j ≤ n → nowAt s (hlf l n) j = nowAt s l (2 * j)
  | 0, _ => rfl
  | j + 1, h => by
    rw [show 2 * (j + 1) = (2 * j + 1) + 1 by omega]
    show rL (hlf l n) j = rL l (2 * j + 1)
    rw [hlf_rL l (by omega)]
theorem best_twice {s c : List Int} (hh : hallB s c = true) (hl : c.length ≤ 20) : bestC s (twF c) = bestC s c := by
  obtain ⟨⟨hpos, hk1, hk3⟩, h40, hcs⟩ := hallB_parts hh
  have hh2 := hall_twice hh hl
  have hs := posB_allP (posB_s hh)
  refine Int.le_antisymm ?_ ?_
  · obtain ⟨hlen, hr⟩ := sched_rows (best_sched hh)
    have hsch : schedB s.length (twF c) (dbl (bestL s c) c.length) = true := by
      simp only [schedB, Bool.and_eq_true, decide_eq_true_eq]
      refine ⟨by simp [dbl, tw_len], fun j hj => ?_⟩
      have hj' : j < 2 * c.length := by simpa [dbl] using hj
      have h1 := hr (j / 2) (by omega)
      simp only [rowB, Bool.and_eq_true, decide_eq_true_eq] at h1 ⊢
      rw [dbl_rL _ hj']
      refine ⟨h1.1, ?_⟩
      have e : rd (twF c) (j : Int) = rd c ((j / 2 : Nat) : Int) := by
        rcases Nat.mod_two_eq_zero_or_one j with e | e
        · have := (tw_rd c (j / 2)).1
          rwa [show 2 * (j / 2) = j by omega] at this
        · have := (tw_rd c (j / 2)).2
          rwa [show 2 * (j / 2) + 1 = j by omega] at this
      rw [e]; exact h1.2
    have h1 := bestC_least hh2 hsch
    rw [tw_len, dbl_cost s _ _ _ (Nat.le_refl _)] at h1
    exact h1
  · obtain ⟨hlen, hr⟩ := sched_rows (best_sched hh2)
    rw [tw_len] at hlen hr
    have hsch : schedB s.length c (hlf (bestL s (twF c)) c.length) = true := by
      simp only [schedB, Bool.and_eq_true, decide_eq_true_eq]
      refine ⟨by simp [hlf], fun j hj => ?_⟩
      have hj' : j < c.length := by simpa [hlf] using hj
      have h1 := hr (2 * j + 1) (by omega)
      simp only [rowB, Bool.and_eq_true, decide_eq_true_eq] at h1 ⊢
      rw [hlf_rL _ hj']
      refine ⟨h1.1, ?_⟩
      rw [← (tw_rd c j).2]; exact h1.2
    have h1 := bestC_least hh hsch
    have key : ∀ j, j ≤ c.length → costTo s (hlf (bestL s (twF c)) c.length) j ≤ costTo s (bestL s (twF c)) (2 * j) := by
      intro j
      induction j with
      | zero => intro _; exact Int.le_refl _
      | succ j ih =>
        intro hj
        have ih := ih (by omega)
        have hn : nowAt s (bestL s (twF c)) (2 * j) ∈ allP s.length := now_allP hh2 (2 * j) (fun i hi => hr i (by omega))
        have ha := (row_allP (hr (2 * j) (by omega))).1
        have hb := (row_allP (hr (2 * j + 1) (by omega))).1
        have htri := dR_tri (nowAt s (bestL s (twF c)) (2 * j)) (rL (bestL s (twF c)) (2 * j)) (rL (bestL s (twF c)) (2 * j + 1)) (by rw [allP_len hn, allP_len ha])
        rw [show 2 * (j + 1) = (2 * j + 1) + 1 by omega]
        show costTo s (hlf (bestL s (twF c)) c.length) j + distF (nowAt s (hlf (bestL s (twF c)) c.length) j) (rL (hlf (bestL s (twF c)) c.length) j) ≤ costTo s (bestL s (twF c)) (2 * j) + distF (nowAt s (bestL s (twF c)) (2 * j)) (rL (bestL s (twF c)) (2 * j)) + distF (rL (bestL s (twF c)) (2 * j)) (rL (bestL s (twF c)) (2 * j + 1))
        rw [hlf_now s _ _ j (by omega), hlf_rL _ (by omega), distF_dR _ _ (by rw [allP_len hn, allP_len hb]), distF_dR _ _ (by rw [allP_len hn, allP_len ha]), distF_dR _ _ (by rw [allP_len ha, allP_len hb])]
        omega
    have h2 := key c.length (Nat.le_refl _)
    have h3 : bestC s (twF c) = costTo s (bestL s (twF c)) (2 * c.length) := by unfold bestC; rw [tw_len]
    omega
end Go.Proofs.Ythadaajgjloogaa.L

