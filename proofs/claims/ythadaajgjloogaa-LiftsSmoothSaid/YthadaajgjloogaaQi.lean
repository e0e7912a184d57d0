import Derived.Test.YthadaajgjloogaaQd
import Derived.WalkKit
import Derived.ChangeOld
import Derived.SizedLaws
namespace Go.Proofs.Ythadaajgjloogaa.L
open Go.ChangeShapes Go.WideShapes Go.RowKit Go.Proofs.YthadaajgjloogaaW.PrintWords

/-! ### an array of two slices, as an argument -/
theorem open_two {H : Type} {enc : TypeId × Value → H} {P : Program} {w : World} {base : Nat} {sp : Nat → Bool} {held : Bool} {fuel : Nat} {t e : TypeId} {x y : Value} {r : DataW H × List MemPlace}
    (ht : P.underlying t = some (.array 2 e)) (hc : P.cellsOf t = 2) (he : P.cellsOf e = 1) (h : DataW.trod enc P w base sp held fuel t [x, y] = some r) :
    ∃ f y0 y1, DataW.trod enc P w base sp held f e [x] = some y0 ∧ DataW.trod enc P w base sp held f e [y] = some y1 := by
  cases fuel with
  | zero => simp [DataW.trod] at h
  | succ f =>
    unfold DataW.trod at h
    rw [ht] at h
    simp only [List.length_cons, List.length_nil, hc, he] at h
    simp [List.range_succ, List.mapM_cons, Option.bind_eq_some_iff] at h
    obtain ⟨d, ms, h1, _, ⟨d2, ms2, h2, _⟩, _⟩ := h
    exact ⟨f, _, _, h1, h2⟩
theorem okWide_two {P : Program} {w : World} {r : Reach} {base : Nat} {t e : TypeId} {v : Value} (ht : P.underlying t = some (.array 2 e)) (hc : P.cellsOf t = 2) (h : Value.okWide P w r base t v) : ∃ x y, v = .agg #[x, y] := by
  unfold Value.okWide at h
  rw [ht] at h
  obtain ⟨cs, rfl, hs, _⟩ := h
  rw [hc] at hs
  match cs, hs with
  | ⟨[x, y]⟩, _ => exact ⟨x, y, rfl⟩
end Go.Proofs.Ythadaajgjloogaa.L

