import Derived.Test.YthadaajgjloogaaLn
namespace Go.Proofs.Ythadaajgjloogaa.L
open Go.RowKit Go.Proofs.YthadaajgjloogaaW.PrintWords Go.Proofs.YthadaajgjloogaaW.PrintLast Go.Proofs.YthadaajgjloogaaW.PrintMore
attribute [local go_sem] max2_int min2_int max_two min_two max_three min_three max_four min_four

def eq3 (a b : List Int) : Bool := (rd a 0 == rd b 0) && ((rd a 1 == rd b 1) && (rd a 2 == rd b 2))
theorem part_run (w : World) (x y z : Value) : (part 3 #[x, y, z] 0).run Try.prog w = .ok x w ∧ (part 3 #[x, y, z] 1).run Try.prog w = .ok y w ∧ (part 3 #[x, y, z] 2).run Try.prog w = .ok z w := by
  have h : ∀ w, Sem.run Try.prog (isAgg 3) w = .ok false w := fun w => by kernel_rfl
  refine ⟨?_, ?_, ?_⟩ <;> (unfold part; simp only [Sem.run_bind, h, Result.andThen_ok]; rfl)
theorem equal_run (a b : List Int) (w : World) : (Op.equal 60 (.agg (sp a)) (.agg (sp b))).run Try.prog w = .ok (eq3 a b) w := by
  have u60 : ∀ w, Sem.run Try.prog (underlying 60) w = .ok (.array 3 3) w := run_underlying Try.underlying60
  have hsz : ∀ w, Sem.run Try.prog (sizeOf 3) w = .ok 1 w := fun w => by kernel_rfl
  unfold Op.equal Op.maxDepth sp
  unfold Op.equalIn
  simp only [Sem.run_bind, u60, Result.andThen_ok, hsz]
  simp only [Std.Legacy.Range.forIn_eq_forIn_range', Std.Legacy.Range.size, Nat.sub_zero, Nat.add_one_sub_one, Nat.div_one, List.range', List.forIn_cons, List.forIn_nil, Sem.run_bind, Nat.zero_add, Nat.reduceAdd, Nat.mul_one, part_run, Result.andThen_ok, run_equalIn_int w _ 3 _ .i64 _ _ Try.underlying3]
  unfold eq3
  by_cases h0 : rd a 0 = rd b 0 <;> by_cases h1 : rd a 1 = rd b 1 <;> by_cases h2 : rd a 2 = rd b 2 <;> simp [run_equalIn_int w _ 3 _ .i64 _ _ Try.underlying3, part_run, h0, h1, h2]
theorem check_run (em : Bool) (a : List Int) (w : World) : (Instr.checkKey em 10000 60 (.agg (sp a))).run Try.prog w = .ok () w := by
  have u60 : ∀ w, Sem.run Try.prog (underlying 60) w = .ok (.array 3 3) w := run_underlying Try.underlying60
  have u3 : ∀ w, Sem.run Try.prog (underlying 3) w = .ok (.int .i64) w := run_underlying Try.underlying3
  have hsz : ∀ w, Sem.run Try.prog (sizeOf 3) w = .ok 1 w := fun w => by kernel_rfl
  have h3 : ∀ (d : Nat) (x : Int) w, Sem.run Try.prog (Instr.checkKey em (d + 1) 3 (.int .i64 x)) w = .ok () w := fun d x w => by
    unfold Instr.checkKey
    simp [Sem.run_bind, u3]
  unfold sp
  unfold Instr.checkKey
  simp only [Sem.run_bind, u60, Result.andThen_ok]
  simp only [Std.Legacy.Range.forIn_eq_forIn_range', Std.Legacy.Range.size, Nat.sub_zero, Nat.add_one_sub_one, Nat.div_one, List.range', List.forIn_cons, List.forIn_nil, Sem.run_bind, Nat.zero_add, Nat.reduceAdd, Nat.mul_one, hsz, part_run, Result.andThen_ok, h3, Sem.run_pure, Nat.reduceMul]
  done

/-! ### a map from positions to numbers, its entries in the order in which they came -/
def entOf (i : Nat) (q : List Int × Int) : MapEntry := { key := .agg (sp q.1), val := .int .i64 q.2, born := i }
def entsOf (l : List (List Int × Int)) : Array MapEntry := (l.mapIdx entOf).toArray
def findL (p : List Int) : List (List Int × Int) → Nat → Option (Nat × Int)
  | [], _ => none
  | q :: r, i => if eq3 p q.1 then some (i, q.2) else findL p r (i + 1)
theorem asking_run (p : List Int) : ∀ (l : List (List Int × Int)) (i j : Nat) (w : World), (Instr.findAsking 60 (.agg (sp p)) (l.mapIdx fun k q => entOf (j + k) q) i).run Try.prog w = .ok ((findL p l i).map fun r => (r.1, Value.int .i64 r.2)) w
  | [], i, j, w => by simp [Instr.findAsking, findL]
  | q :: r, i, j, w => by
    have ih := asking_run p r (i + 1) (j + 1) w
    simp only [List.mapIdx_cons, Instr.findAsking, Sem.run_bind, entOf, equal_run, Result.andThen_ok, findL]
    cases h : eq3 p q.1
    · simp only [Bool.false_eq_true, if_false]
      have e : (fun (i : Nat) (q : List Int × Int) => entOf (j + (i + 1)) q) = fun k q => entOf (j + 1 + k) q := by funext k q; congr 1; omega
      simp only [entOf] at e ih
      rw [e]; exact ih
    · simp
theorem find_run (p : List Int) (l : List (List Int × Int)) (w : World) : (Instr.findKey 60 (.agg (sp p)) (entsOf l).toList).run Try.prog w = .ok ((findL p l 0).map fun r => (r.1, Value.int .i64 r.2)) w := by
  have u60 : ∀ w, Sem.run Try.prog (underlying 60) w = .ok (.array 3 3) w := run_underlying Try.underlying60
  have hA := asking_run p l 0 0 w
  simp only [Nat.zero_add] at hA
  have hE : (entsOf l).toList = l.mapIdx fun k q => entOf k q := by simp [entsOf]
  rw [hE]
  unfold Instr.findKey
  simp only [Sem.run_bind, u60, Result.andThen_ok]
  cases l with
  | nil => simp [Instr.findNow, findL]
  | cons q r =>
    have hn : Instr.findNow (.array 3 3) (.agg (sp p)) ((q :: r).mapIdx fun k q => entOf k q) 0 = none := by
      simp [List.mapIdx_cons, Instr.findNow, Instr.sameNow]
    rw [hn]
    exact hA

def lookL (l : List (List Int × Int)) (p : List Int) : Int := ((findL p l 0).map (·.2)).getD 0
theorem zero3 (w : World) : (zeroValue 3).run Try.prog w = .ok (.int .i64 0) w := by kernel_rfl
theorem run_getMap {w : World} {mb : Nat} {es : Array MapEntry} {n : Nat} (h : w.heap[mb]? = some (.map es n)) : (getObj mb).run Try.prog w = .ok (.map es n) w := by simp [getObj, Sem.run, h]
theorem lookup_run (l : List (List Int × Int)) (n mb : Nat) (p : List Int) (w : World) (h : w.heap[mb]? = some (.map (entsOf l) n)) :
    (Instr.lookup 68 (.map (some mb)) (.agg (sp p)) false).run Try.prog w = .ok (.int .i64 (lookL l p)) w := by
  have u68 : ∀ w, Sem.run Try.prog (underlying 68) w = .ok (.map 60 3) w := run_underlying Try.underlying68
  unfold Instr.lookup
  simp only [Sem.run_bind, u68, Result.andThen_ok, run_getMap h, Sem.run_pure, check_run, find_run]
  unfold lookL
  cases findL p l 0 with
  | none => simp [zero3]
  | some r => simp
theorem update_run (l : List (List Int × Int)) (mb : Nat) (p : List Int) (v : Int) (w : World) (h : w.heap[mb]? = some (.map (entsOf l) l.length)) (hn : findL p l 0 = none) :
    (Instr.mapUpdate 68 (.map (some mb)) (.agg (sp p)) (.int .i64 v)).run Try.prog w = .ok () (w.putObj mb (.map (entsOf (l ++ [(p, v)])) (l ++ [(p, v)]).length)) := by
  have u68 : ∀ w, Sem.run Try.prog (underlying 68) w = .ok (.map 60 3) w := run_underlying Try.underlying68
  unfold Instr.mapUpdate
  simp only [Sem.run_bind, u68, Result.andThen_ok, run_getMap h, check_run, find_run, hn, Option.map_none]
  have he : (entsOf l).push (entOf l.length (p, v)) = entsOf (l ++ [(p, v)]) := by
    unfold entsOf
    rw [List.mapIdx_append]
    simp
  unfold entOf at he
  simp [setObj, Sem.run, h, World.putObj, he]
theorem findL_none {p : List Int} : ∀ (l : List (List Int × Int)) (i : Nat), (∀ q ∈ l, eq3 p q.1 = false) → findL p l i = none
  | [], _, _ => rfl
  | q :: r, i, h => by
    simp only [findL, h q (by simp), Bool.false_eq_true, if_false]
    exact findL_none r (i + 1) (fun q' hq => h q' (by simp [hq]))
theorem findL_some {p : List Int} {v : Int} : ∀ (l : List (List Int × Int)) (i : Nat), (p, v) ∈ l → (∀ q ∈ l, eq3 p q.1 = true → q.2 = v) → ∃ j, findL p l i = some (j, v)
  | [], _, h, _ => by simp at h
  | q :: r, i, h, hu => by
    simp only [findL]
    cases hq : eq3 p q.1
    · simp only [Bool.false_eq_true, if_false]
      rcases List.mem_cons.1 h with h1 | h1
      · rw [← h1] at hq; simp [eq3] at hq
      · exact findL_some r (i + 1) h1 (fun q' h' => hu q' (by simp [h']))
    · simp only [if_true]
      exact ⟨i, by rw [hu q (by simp) hq]⟩
theorem lookL_mem {l : List (List Int × Int)} {p : List Int} {v : Int} (h : (p, v) ∈ l) (hu : ∀ q ∈ l, eq3 p q.1 = true → q.2 = v) : lookL l p = v := by
  obtain ⟨j, hj⟩ := findL_some l 0 h hu
  simp [lookL, hj]
/-- Of two positions of k lifts the first three floors tell all. -/
theorem eq3_iff {k : Nat} {a b : List Int} (ha : a.length = k) (hb : b.length = k) (hk : k ≤ 3) : eq3 a b = true ↔ a = b := by
  constructor
  · intro h
    simp only [eq3, Bool.and_eq_true, beq_iff_eq] at h
    obtain ⟨h0, h1, h2⟩ := h
    match a, b, ha, hb, hk with
    | [], [], _, _, _ => rfl
    | [x], [y], _, _, _ => simp [rd] at h0; rw [h0]
    | [x, x1], [y, y1], _, _, _ => simp [rd] at h0 h1; rw [h0, h1]
    | [x, x1, x2], [y, y1, y2], _, _, _ => simp [rd] at h0 h1 h2; rw [h0, h1, h2]
    | [], _ :: _, e1, e2, _ => simp at e1 e2; omega
    | [_], [], e1, e2, _ => simp at e1 e2; omega
    | [_], _ :: _ :: _, e1, e2, _ => simp at e1 e2; omega
    | [_, _], [], e1, e2, _ => simp at e1 e2; omega
    | [_, _], [_], e1, e2, _ => simp at e1 e2; omega
    | [_, _], _ :: _ :: _ :: _, e1, e2, _ => simp at e1 e2; omega
    | [_, _, _], [], e1, e2, _ => simp at e1 e2; omega
    | [_, _, _], [_], e1, e2, _ => simp at e1 e2; omega
    | [_, _, _], [_, _], e1, e2, _ => simp at e1 e2; omega
    | [_, _, _], _ :: _ :: _ :: _ :: _, e1, e2, _ => simp at e1 e2; omega
    | _ :: _ :: _ :: _ :: _, _, e1, e2, _ => simp at e1 e2; omega
  · rintro rfl
    simp [eq3]
end Go.Proofs.Ythadaajgjloogaa.L
