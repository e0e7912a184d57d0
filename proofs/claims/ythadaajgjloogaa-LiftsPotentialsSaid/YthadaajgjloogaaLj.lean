import Derived.Test.YthadaajgjloogaaLi
namespace Go.Proofs.Ythadaajgjloogaa.L
open Go.RowKit Go.Proofs.YthadaajgjloogaaW.PrintWords Go.Proofs.YthadaajgjloogaaW.PrintLast Go.Proofs.YthadaajgjloogaaW.PrintMore
attribute [local go_sem] max2_int min2_int max_two min_two max_three min_three max_four min_four

theorem posB_pos {s : List Int} (h : posB s = true) : Pos s.length s ∧ 1 ≤ s.length ∧ s.length ≤ 3 := by
  obtain ⟨⟨h1, h3⟩, ha⟩ := (posB_iff s).1 h
  refine ⟨⟨rfl, fun x hx => ?_⟩, h1, h3⟩
  obtain ⟨i, hi, rfl⟩ := List.mem_iff_getElem.1 hx
  have := ha i hi
  have e : rd s i = s[i] := by simp [rd, List.getD, hi]
  rw [← e]
  exact ⟨this.1, this.2.1⟩
theorem idxP_neg (p : Int → Bool) : ∀ (l : List Int), idxP p l < 0 ↔ ∀ x ∈ l, p x = false
  | [] => by simp [idxP]
  | x :: r => by
    have ih := idxP_neg p r
    simp only [idxP]
    cases hp : p x
    · simp only [Bool.false_eq_true, if_false, List.mem_cons, forall_eq_or_imp, hp, true_and]
      rw [← ih]
      split
      · rename_i h; exact ⟨fun _ => h, fun _ => by omega⟩
      · rename_i h; exact ⟨fun h' => by omega, fun h' => absurd h' h⟩
    · simp [hp]
theorem badF_false {x : Int} : badF x = false ↔ 0 ≤ x ∧ x ≤ 30 := by simp [badF, withinB]
theorem callsB_iff (c : List Int) : callsB c = true ↔ c.length ≤ 40 ∧ ∀ x ∈ c, 0 ≤ x ∧ x ≤ 30 := by
  simp only [callsB, Bool.and_eq_true, decide_eq_true_eq, idxP_neg, badF_false]
theorem hallB_parts {s c : List Int} (h : hallB s c = true) : (Pos s.length s ∧ 1 ≤ s.length ∧ s.length ≤ 3) ∧ c.length ≤ 40 ∧ ∀ x ∈ c, 0 ≤ x ∧ x ≤ 30 := by
  simp only [hallB, Bool.and_eq_true] at h
  exact ⟨posB_pos h.1, (callsB_iff c).1 h.2⟩
theorem carefulF_pos {k : Nat} {p : List Int} {x : Int} (hk1 : 1 ≤ k) (h : Pos k p) (hx : 0 ≤ x ∧ x ≤ 30) : Pos k (carefulF p x) := by
  unfold carefulF
  split
  · exact h
  · rename_i hn
    split
    · exact h.set 0 hx
    · rename_i hlo
      split
      · exact h.set _ hx
      · rename_i hhi
        rw [h.len] at hhi
        obtain ⟨u, hu, hu1, huk, hA, hB⟩ := up_spec hk1 h.len hn hlo hhi
        have h1 := h.fl
        have m1 := h.all _ (rd_mem (s := p) (i := u) (by rw [h.len]; exact huk))
        have m2 := h.all _ (rd_mem (s := p) (i := u - 1) (by rw [h.len]; omega))
        rw [show ((u - 1 : Nat) : Int) = (u : Int) - 1 from by omega] at m2
        rw [hu]
        refine (h.set _ ?_).set _ ?_
        · unfold stepI; rw [hu]; split <;> omega
        · unfold stepI; rw [hu]; split <;> omega
theorem nearF_pos {k : Nat} {p : List Int} {x : Int} (h : Pos k p) (hx : 0 ≤ x ∧ x ≤ 30) : Pos k (nearF p x) := (h.set _ hx).srt
def cS : Unit → List Int → Int → Unit × List Int := fun _ p x => ((), carefulF p x)
def nS : Unit → List Int → Int → Unit × List Int := fun _ p x => ((), nearF p x)
/-- The schedule and the cost of a way of serving. -/
def runL (serve : Unit → List Int → Int → Unit × List Int) (s c : List Int) : List (List Int) := (stepS serve () s c c.length).2.2.1
def runC (serve : Unit → List Int → Int → Unit × List Int) (s c : List Int) : Int := (stepS serve () s c c.length).2.2.2

theorem below_of_grown {a b : World} (h : a.grownBy b none) : Below a.heap.size a b := ⟨h.os, h.tape, h.output, h.size, fun i hi => h.block i hi (by simp)⟩
theorem enter_fn (g : Nat) {f : Func} (hf : Try.prog.funcs[g]? = some f) (hb : f.body.isSome = true) (hn : (f.name == "runtime.NumGoroutine") = false) (args : Array Value) (W : World) : (callFunc g args).run Try.prog W = .ok (.enter g args) W := by
  cases hB : f.body with
  | none => rw [hB] at hb; cases hb
  | some bd => simp [callFunc, go_sem, hf, hB]; intro e; rw [e] at hn; exact absurd hn (by decide)
theorem sched_plain (serve : Unit → List Int → Int → Unit × List Int) (g : Nat) (s c : List Int) (B : Option Addr) (cb : Nat) (W : World)
    (hcf : ∀ (args : Array Value) (W : World), (callFunc g args).run Try.prog W = .ok (.enter g args) W)
    (hP : (Pos s.length s ∧ 1 ≤ s.length ∧ s.length ≤ 3) ∧ c.length ≤ 40 ∧ ∀ x ∈ c, 0 ≤ x ∧ x ≤ 30)
    (hp : ∀ p x, Pos s.length p → 0 ≤ x ∧ x ≤ 30 → Pos s.length (serve () p x).2)
    (hstep : ∀ p x W, Pos s.length p → 0 ≤ x ∧ x ≤ 30 → Calls Try.prog g #[.agg (hl s.length s (.slice B c.length cb)), .agg (sp p), .int .i64 x] W fun e W' => e = .returned (.agg (sp (serve () p x).2)) ∧ Below W.heap.size W W')
    (hq : Kd.C (Kd.int .i64) W B c.length c) :
    Calls Try.prog 55 #[.agg (hl s.length s (.slice B c.length cb)), .func (.func g) #[.agg (hl s.length s (.slice B c.length cb))] #[]] W fun e w' => ∃ v, e = .returned (.tuple #[v, .int .i64 (runC serve s c)]) ∧ Rows w' (W.heap.size + 2) v (runL serve s c) ∧ Below W.heap.size W w' := by
  obtain ⟨⟨h0, h1, h3⟩, h40, hc⟩ := hP
  refine (schedule_calls serve () g #[.agg (hl s.length s (.slice B c.length cb))] #[] s.length s c B cb none (fun _ _ => True) W hcf (fun _ _ _ _ _ => trivial) (fun _ p x => hp p x) ?_ h1 h3 h0 hc (by omega) (fun W' hg => Kd.C_below hq (below_of_grown hg)) (fun _ e => by cases e) trivial).mono ?_
  · intro st p x W' _ hpp hx _
    exact (hstep p x W' hpp hx).mono fun e W2 h => ⟨h.1, trivial, grown_of_below h.2 _⟩
  · rintro e w' ⟨v, he, hr, _, hg⟩
    exact ⟨v, he, hr, below_of_grown hg⟩

set_option maxHeartbeats 2000000 in
theorem Careful_no (A B : Option Addr) (ca cb : Nat) (s c : List Int) (w : World) (hr : Kd.C (Kd.int .i64) w A s.length s) (hq : Kd.C (Kd.int .i64) w B c.length c) (hh : hallB s c = false) :
    Calls Try.prog 27 #[.slice A s.length ca, .slice B c.length cb] w fun e w' => e = .returned (.tuple #[.slice none 0 0, .int .i64 0, .int .i64 2]) ∧ Below w.heap.size w w' := by
  have HH := Aside0.mk (ansH_no (s := s) (c := c) (cv := .slice B c.length cb) hh)
  have HN := Aside0.mk (newHall_calls A B ca cb s c w hr hq)
  clear hr hq hh
  go_enter Try.func27, Try.ntmps27
  go_wp2_with (go_at_call 47; refine HN.out.mono ?_; rintro e W ⟨rfl, hb⟩; rw [HH.out]; have HB := Aside0.mk hb; clear hb)
  go_ret3
  exact ⟨rfl, HB.out.alloc HB.out.size _⟩
set_option maxHeartbeats 2000000 in
theorem Careful_yes (A B : Option Addr) (ca cb : Nat) (s c : List Int) (w : World) (hr : Kd.C (Kd.int .i64) w A s.length s) (hq : Kd.C (Kd.int .i64) w B c.length c) (hh : hallB s c = true) :
    Calls Try.prog 27 #[.slice A s.length ca, .slice B c.length cb] w fun e w' => ∃ v, e = .returned (.tuple #[v, .int .i64 (runC cS s c), .int .i64 0]) ∧ Rows w' w.heap.size v (runL cS s c) ∧ Below w.heap.size w w' := by
  have HH := Aside0.mk (ansH_yes (s := s) (c := c) (cv := .slice B c.length cb) hh)
  have HN := Aside0.mk (newHall_calls A B ca cb s c w hr hq)
  have HP := Aside0.mk (hallB_parts hh)
  have HQ := Aside0.mk hq
  clear hr hq hh
  go_enter Try.func27, Try.ntmps27
  go_wp2_with (first
    | (go_at_call 47; refine HN.out.mono ?_; rintro e W ⟨rfl, hb⟩; rw [HH.out]; have HB := Aside0.mk hb; have HQ2 := Aside0.mk (Kd.C_alloc (Kd.C_below HQ.out hb) (.cells (hl s.length s (.slice B c.length cb)) 62)); clear hb)
    | (go_at_call 55; refine (sched_plain cS 56 s c B cb _ (enter_fn 56 Try.func56 rfl rfl) HP.out (fun p x => carefulF_pos HP.out.1.2.1) (fun p x W' hpp hx => careful_calls s.length s _ p x W' HP.out.1.2.1 HP.out.1.2.2 hpp.len hpp.fl hx) HQ2.out).mono ?_; rintro e W2 ⟨v, rfl, hr2, hb2⟩; have HR2 := Aside0.mk hr2; have HB2 := Aside0.mk hb2; clear hr2 hb2))
  go_ret3
  exact ⟨v, rfl, Kd.R_mono (Kd.R_lower HR2.out (by have := HB.out.size; simp; omega)) (fun q hq => by have := HB.out.size; simp at hq; omega), below_then (HB.out.alloc HB.out.size _) (by have := HB.out.size; simp; omega) HB2.out⟩
set_option maxHeartbeats 2000000 in
theorem Nearest_no (A B : Option Addr) (ca cb : Nat) (s c : List Int) (w : World) (hr : Kd.C (Kd.int .i64) w A s.length s) (hq : Kd.C (Kd.int .i64) w B c.length c) (hh : hallB s c = false) :
    Calls Try.prog 38 #[.slice A s.length ca, .slice B c.length cb] w fun e w' => e = .returned (.tuple #[.slice none 0 0, .int .i64 0, .int .i64 2]) ∧ Below w.heap.size w w' := by
  have HH := Aside0.mk (ansH_no (s := s) (c := c) (cv := .slice B c.length cb) hh)
  have HN := Aside0.mk (newHall_calls A B ca cb s c w hr hq)
  clear hr hq hh
  go_enter Try.func38, Try.ntmps38
  go_wp2_with (go_at_call 47; refine HN.out.mono ?_; rintro e W ⟨rfl, hb⟩; rw [HH.out]; have HB := Aside0.mk hb; clear hb)
  go_ret3
  exact ⟨rfl, HB.out.alloc HB.out.size _⟩
set_option maxHeartbeats 2000000 in
theorem Nearest_yes (A B : Option Addr) (ca cb : Nat) (s c : List Int) (w : World) (hr : Kd.C (Kd.int .i64) w A s.length s) (hq : Kd.C (Kd.int .i64) w B c.length c) (hh : hallB s c = true) :
    Calls Try.prog 38 #[.slice A s.length ca, .slice B c.length cb] w fun e w' => ∃ v, e = .returned (.tuple #[v, .int .i64 (runC nS s c), .int .i64 0]) ∧ Rows w' w.heap.size v (runL nS s c) ∧ Below w.heap.size w w' := by
  have HH := Aside0.mk (ansH_yes (s := s) (c := c) (cv := .slice B c.length cb) hh)
  have HN := Aside0.mk (newHall_calls A B ca cb s c w hr hq)
  have HP := Aside0.mk (hallB_parts hh)
  have HQ := Aside0.mk hq
  clear hr hq hh
  go_enter Try.func38, Try.ntmps38
  go_wp2_with (first
    | (go_at_call 47; refine HN.out.mono ?_; rintro e W ⟨rfl, hb⟩; rw [HH.out]; have HB := Aside0.mk hb; have HQ2 := Aside0.mk (Kd.C_alloc (Kd.C_below HQ.out hb) (.cells (hl s.length s (.slice B c.length cb)) 62)); clear hb)
    | (go_at_call 55; refine (sched_plain nS 65 s c B cb _ (enter_fn 65 Try.func65 rfl rfl) HP.out (fun p x => nearF_pos) (fun p x W' hpp hx => nearest_calls s.length s _ p x W' HP.out.1.2.1 HP.out.1.2.2 hpp.len hpp.fl hx) HQ2.out).mono ?_; rintro e W2 ⟨v, rfl, hr2, hb2⟩; have HR2 := Aside0.mk hr2; have HB2 := Aside0.mk hb2; clear hr2 hb2))
  go_ret3
  exact ⟨v, rfl, Kd.R_mono (Kd.R_lower HR2.out (by have := HB.out.size; simp; omega)) (fun q hq => by have := HB.out.size; simp at hq; omega), below_then (HB.out.alloc HB.out.size _) (by have := HB.out.size; simp; omega) HB2.out⟩
end Go.Proofs.Ythadaajgjloogaa.L
