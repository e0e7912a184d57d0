import Derived.Test.YthadaajgjloogaaQg
namespace Go.Proofs.Ythadaajgjloogaa.L
open Go.RowKit Go.Shelf Go.Proofs.YthadaajgjloogaaW.PrintWords Go.Proofs.YthadaajgjloogaaW.PrintLast Go.Proofs.YthadaajgjloogaaW.PrintMore

/-! ### rows that are written: their headers -/
/-- A header whose row is a block of ints, from B on. -/
def Wr (W : World) (B : Nat) (h : Hdr) : Prop := h.2.1 ≤ 3 ∧ (0 < h.2.1 → ∃ g cells, h.1 = some ⟨g, 0, none⟩ ∧ B ≤ g ∧ W.heap[g]? = some (.cells cells 3 (0, 0)) ∧ h.2.1 ≤ cells.size)
def toH : Value → Hdr
  | .slice a n c => (a, n, c)
  | _ => (none, 0, 0)
theorem Wr.keep {W W1 : World} {B : Nat} {h : Hdr} (hw : Wr W B h) (hk : ∀ (g : Nat) (cells : Array Value), W.heap[g]? = some (Obj.cells cells 3 (0, 0)) → ∃ cells' : Array Value, W1.heap[g]? = some (Obj.cells cells' 3 (0, 0)) ∧ cells'.size = cells.size) : Wr W1 B h := ⟨hw.1, fun hp => by
  obtain ⟨g, cells, h1, h2, h3, h4⟩ := hw.2 hp
  obtain ⟨cells', h5, h6⟩ := hk g cells h3
  exact ⟨g, cells', h1, h2, h5, by omega⟩⟩
theorem Wr.below {W W1 : World} {B : Nat} {h : Hdr} (hw : Wr W B h) (hb : Below W.heap.size W W1) : Wr W1 B h := hw.keep fun g cells hc => ⟨cells, (hb.block _ (blk_lt hc)).trans hc, rfl⟩
theorem Wr.lower {W : World} {B B' : Nat} {h : Hdr} (hw : Wr W B h) (hb : B' ≤ B) : Wr W B' h := ⟨hw.1, fun hp => by
  obtain ⟨g, cells, h1, h2, h3, h4⟩ := hw.2 hp
  exact ⟨g, cells, h1, by omega, h3, h4⟩⟩
theorem Wr.set {W : World} {B : Nat} {h : Hdr} (hw : Wr W B h) {g : Nat} {cells : Array Value} (hg : W.heap[g]? = some (.cells cells 3 (0, 0))) (j : Nat) (u : Value) : Wr (W.setCell ⟨g, j, none⟩ u) B h := hw.keep fun g' cells' hc => by
  by_cases e : g' = g
  · subst e
    rw [hg] at hc
    cases hc
    exact ⟨_, blk_set hg j u, by simp⟩
  · exact ⟨cells', blk_far hc e u, rfl⟩
theorem heads_of {W : World} {B : Nat} {v : Value} {rows : List (List Int)} (h : Rows W B v rows) (h3 : ∀ p ∈ rows, p.length ≤ 3) :
    ∃ A c, ∃ hs : List Hdr, v = .slice A rows.length c ∧ hs.length = rows.length ∧ hdK.C W A rows.length hs ∧ (∀ i : Nat, i < rows.length → Wr W B (hs.getD i (none, 0, 0))) := by
  obtain ⟨h0, inner, ho, hr⟩ := h
  have key : ∀ j, j < rows.length → ∃ x, inner[j]? = some x ∧ x = .slice (toH x).1 (toH x).2.1 (toH x).2.2 ∧ Wr W B (toH x) := fun j hj => by
    obtain ⟨v', hv, hR⟩ := hr.2 j rows[j] (List.getElem?_eq_getElem hj)
    obtain ⟨A', c', rfl, _, _⟩ := Kd.R_reads hR
    have e : inner[j]? = some (.slice A' rows[j].length c') := by
      have h1 := congrArg (fun l => l[0]?) hv
      simpa [Kd.slice] using h1
    refine ⟨_, e, rfl, h3 _ (List.getElem_mem hj), fun hp => ?_⟩
    obtain ⟨g, cap, e2, h2, _, cells, h4⟩ := Kd.R_form hR hp
    injection e2 with e3 _ _
    refine ⟨g, cells, e3, h2, h4, ?_⟩
    subst e3
    have h5 := (Kd.R_celln 0 hR ((rows[j].length - 1 : Nat) : Int) (by omega) (by simp only [toH] at hp; omega)).1
    rw [Int.toNat_natCast, blk_cell h4] at h5
    have := (Array.getElem?_eq_some_iff.1 h5).1
    simp only [toH] at hp ⊢
    omega
  have hlen : inner.length = rows.length := by have := hr.1; simpa [Kd.slice] using this
  obtain ⟨A, c, rfl, hC⟩ := own_reads_row (R := hdK.K W) (ps := inner.map toH) ho ⟨by simp [hlen, Kd.slice], fun j p hj => by
    obtain ⟨hj1, hj2⟩ := List.getElem?_eq_some_iff.1 hj
    obtain ⟨x, h1, h2, _⟩ := key j (by simp [hlen] at hj1; exact hj1)
    have e : p = toH x := by
      have h3 : inner[j]? = some x := h1
      rw [List.getElem?_map, h3] at hj
      simpa using hj.symm
    subst e
    show (inner.drop (j * (Kd.slice 3 (Kd.int .i64)).sz)).take (Kd.slice 3 (Kd.int .i64)).sz = [.slice (toH x).1 (toH x).2.1 (toH x).2.2]
    rw [← h2]
    show (inner.drop (j * 1)).take 1 = [x]
    rw [Nat.mul_one]
    have hj3 : j < inner.length := by simpa using hj1
    rw [List.getElem?_eq_getElem hj3] at h1
    rw [List.drop_eq_getElem_cons hj3]
    injection h1 with h1
    rw [h1]
    rfl⟩ (by simp [hlen])
  refine ⟨A, c, inner.map toH, rfl, by simp [hlen], hC, fun i hi => ?_⟩
  obtain ⟨x, h1, _, h3⟩ := key i hi
  simp only [List.getD, List.getElem?_map, h1, Option.map_some, Option.getD_some]
  exact h3
end Go.Proofs.Ythadaajgjloogaa.L

