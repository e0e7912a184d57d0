import Derived.Test.YthadaajgjloogaaPLiftsWorksx0
import Derived.Test.YthadaajgjloogaaShelf
import Derived.Sort.OwnSortedInts
namespace Go.Proofs.Ythadaajgjloogaa.L
open Go.RowKit Go.Proofs.YthadaajgjloogaaW.PrintWords Go.Proofs.YthadaajgjloogaaW.PrintLast Go.Proofs.YthadaajgjloogaaW.PrintMore
attribute [local go_sem] max2_int min2_int max_two min_two max_three min_three max_four min_four

/-! ### within (81), away (84) -/
def withinB (n lo hi : Int) : Bool := decide (lo ≤ n) && decide (n ≤ hi)
theorem within_calls (n lo hi : Int) (w : World) : Calls Try.prog 81 #[.int .i64 n, .int .i64 lo, .int .i64 hi] w fun e w' => e = .returned (.bool (withinB n lo hi)) ∧ w = w' := by
  by_cases h : lo ≤ n
  · have hb : decide (lo ≤ n) = true := decide_eq_true h
    have hw : withinB n lo hi = decide (n ≤ hi) := by simp [withinB, h]
    have HW := Aside0.mk hw
    clear h hw
    go_enter Try.func81, Try.ntmps81
    go_wp2
    go_ret
    exact ⟨by rw [HW.out]; rfl, rfl⟩
  · have hb : decide (lo ≤ n) = false := decide_eq_false h
    have hw : withinB n lo hi = false := by simp [withinB, h]
    have HW := Aside0.mk hw
    clear h hw
    go_enter Try.func81, Try.ntmps81
    go_wp2
    go_ret
    exact ⟨by rw [HW.out]; rfl, rfl⟩

/-- The distance of two floors. -/
def ab (a b : Int) : Int := if a ≤ b then b - a else a - b
theorem away_calls (a b : Int) (w : World) (ha : -1000 ≤ a ∧ a ≤ 1000) (hb : -1000 ≤ b ∧ b ≤ 1000) : Calls Try.prog 84 #[.int .i64 a, .int .i64 b] w fun e w' => e = .returned (.int .i64 (ab a b)) ∧ w = w' := by
  obtain ⟨h1, h2⟩ := ha
  obtain ⟨h3, h4⟩ := hb
  have HW : Aside0 ((if a - b < b - a then b - a else a - b) = ab a b) := ⟨by unfold ab; split <;> split <;> omega⟩
  go_enter Try.func84, Try.ntmps84
  go_wp2
  all_goals
    go_ret
    exact ⟨by rw [← HW.out]; first | rfl | (rw [if_pos (by omega)]; rfl) | (rw [if_neg (by omega)]; rfl), rfl⟩

theorem bad_calls (n : Int) (w : World) : Calls Try.prog 80 #[.int .i64 n] w fun e w' => e = .returned (.bool (!withinB n 0 30)) ∧ w = w' := by
  go_enter Try.func80, Try.ntmps80
  go_wp2_with (go_at_call 81; refine (within_calls _ _ _ _).mono ?_; rintro e w' ⟨rfl, rfl⟩)
  go_ret
  exact ⟨rfl, rfl⟩

/-! ### total (58) -/
def sumI : List Int → Int
  | [] => 0
  | x :: r => x + sumI r
theorem sumI_append (a b : List Int) : sumI (a ++ b) = sumI a + sumI b := by
  induction a with
  | nil => simp [sumI]
  | cons x r ih => simp [sumI, ih]; omega
theorem sumI_bound (B : Int) (h0 : 0 ≤ B) : ∀ l : List Int, (∀ x ∈ l, -B ≤ x ∧ x ≤ B) → -(B * l.length) ≤ sumI l ∧ sumI l ≤ B * l.length
  | [], _ => by simp [sumI]
  | x :: r, h => by
    have h1 := h x (by simp)
    have h2 := sumI_bound B h0 r (fun y hy => h y (by simp [hy]))
    simp only [sumI, List.length_cons]
    have : B * ((r.length + 1 : Nat) : Int) = B * (r.length : Int) + B := by rw [Int.natCast_add, Int.mul_add]; simp
    omega
theorem take_snoc (l : List Int) (k : Nat) (h : k < l.length) : l.take (k + 1) = l.take k ++ [rd l k] := by
  rw [List.take_succ_eq_append_getElem h]; simp [rd, List.getD, h]
theorem total_calls (A : Option Addr) (c : Nat) (l : List Int) (w : World) (hr : Kd.C (Kd.int .i64) w A l.length l) (_hc : l.length ≤ c) (hl : l.length ≤ 1000) (hb : ∀ x ∈ l, -1000000000 ≤ x ∧ x ≤ 1000000000) :
    Calls Try.prog 58 #[.slice A l.length c] w fun e w' => e = .returned (.int .i64 (sumI l)) ∧ w = w' := by
  have HR := Aside0.mk hr
  have HL := Aside0.mk hl
  have HB := Aside0.mk hb
  clear hr hl hb
  go_enter Try.func58, Try.ntmps58
  go_wp2
  go_loop [3, 8] (fun v3 v8 => ∃ k : Nat, k ≤ l.length ∧ v8 = .int .i64 k ∧ v3 = .int .i64 (sumI (l.take k))) (fun _ v8 => l.length - (intOf v8).toNat)
  case atStart => exact ⟨0, Nat.zero_le _, rfl, rfl⟩
  case round =>
    obtain ⟨k, hk, rfl, rfl⟩ := hrel
    by_cases hlt : k < l.length
    · have H2 : Aside0 (sumI (l.take (k + 1)) = sumI (l.take k) + rd l k) := ⟨by rw [take_snoc l k hlt, sumI_append]; simp [sumI]⟩
      obtain ⟨ad, rfl, hx⟩ := Kd.at_int HR.out (k : Int) (by omega) (by omega)
      rw [Int.toNat_natCast] at hx
      have hb1 := sumI_bound 1000000000 (by omega) (l.take k) (fun x hx => HB.out x (List.mem_of_mem_take hx))
      have hb2 := HB.out (rd l k) (by simp [rd, List.getD, hlt])
      have hl' := HL.out
      have hlen : (l.take k).length ≤ 1000 := by rw [List.length_take]; omega
      have q1 : -1000000000000 ≤ sumI (l.take k) := by omega
      have q2 : sumI (l.take k) ≤ 1000000000000 := by omega
      obtain ⟨q3, q4⟩ := hb2
      clear hb1 hlen
      go_wp2
      go_round
      case rel => exact ⟨k + 1, by omega, by go_num, by rw [H2.out]⟩
      case measure => simp [intOf]; omega
    · have H2 : Aside0 (l.take k = l) := ⟨List.take_of_length_le (by omega)⟩
      go_wp2
      go_ret
      exact ⟨by rw [H2.out]; rfl, rfl⟩
end Go.Proofs.Ythadaajgjloogaa.L

namespace Go.Proofs.Ythadaajgjloogaa.L
open Go.RowKit Go.Proofs.YthadaajgjloogaaW.PrintWords Go.Proofs.YthadaajgjloogaaW.PrintLast Go.Proofs.YthadaajgjloogaaW.PrintMore
attribute [local go_sem] max2_int min2_int max_two min_two max_three min_three max_four min_four
theorem info3 : (Try.prog.info? 3).map (fun i => (i.zero, i.size, i.bytes)) = some (some (.int .i64 0), 1, 8) := by kernel_rfl

/-! ### three floors in an array; a hall -/
def sp (s : List Int) : Array Value := #[.int .i64 (rd s 0), .int .i64 (rd s 1), .int .i64 (rd s 2)]
theorem sp_at (s : List Int) (i : Nat) (h : i < 3) : (sp s)[i]? = some (.int .i64 (rd s i)) := by
  match i, h with
  | 0, _ => rfl
  | 1, _ => rfl
  | 2, _ => rfl
theorem sp_cell {w : World} {g : Nat} {s : List Int} (h : w.heap[g]? = some (.cells (sp s) 60 (0, 0))) (i : Nat) (hi : i < 3) : w.cell? ⟨g, i, none⟩ = some (.int .i64 (rd s i)) := (blk_cell h i).trans (sp_at s i hi)
/-- hall: the number of lifts, where they start, the calls. -/
abbrev hl (k : Int) (s : List Int) (c : Value) : Array Value := #[.int .i64 k, .int .i64 (rd s 0), .int .i64 (rd s 1), .int .i64 (rd s 2), c]

def fl (s : List Int) : Prop := ∀ i : Nat, i < 3 → 0 ≤ rd s i ∧ rd s i ≤ 30
/-- The terms of the distance of two positions. -/
def dl (a b : List Int) (j : Nat) : List Int := (List.range j).map fun i : Nat => ab (rd a i) (rd b i)
theorem dl_succ (a b : List Int) (j : Nat) : dl a b (j + 1) = dl a b j ++ [ab (rd a j) (rd b j)] := by simp [dl, List.range_succ]
theorem dl_len (a b : List Int) (j : Nat) : (dl a b j).length = j := by simp [dl]

theorem ab_range {x y : Int} (hx : 0 ≤ x ∧ x ≤ 30) (hy : 0 ≤ y ∧ y ≤ 30) : 0 ≤ ab x y ∧ ab x y ≤ 30 := by unfold ab; split <;> omega
theorem dl_range {a b : List Int} (ha : fl a) (hb : fl b) (j : Nat) (hj : j ≤ 3) : ∀ x ∈ dl a b j, -1000000000 ≤ x ∧ x ≤ 1000000000 := by
  intro x hx
  obtain ⟨i, hi, rfl⟩ := List.mem_map.1 hx
  have := ab_range (ha i (by have := List.mem_range.1 hi; omega)) (hb i (by have := List.mem_range.1 hi; omega))
  omega
theorem aln (w : World) (o : Obj) : (w.alloc o).heap[w.heap.size]? = some o := heap_alloc_new w o
theorem aln' (w : World) (o : Obj) {g : Nat} (h : g = w.heap.size) : (w.alloc o).heap[g]? = some o := by rw [h]; exact aln w o
theorem alo {w : World} {g : Nat} {x : Obj} (h : w.heap[g]? = some x) (o : Obj) : (w.alloc o).heap[g]? = some x := (Below.heap_alloc w o g (blk_lt h)).trans h
set_option maxHeartbeats 1000000 in
set_option maxRecDepth 100000 in
theorem distance_calls (k : Nat) (s : List Int) (cv : Value) (a b : List Int) (w : World) (hk : k ≤ 3) (ha : fl a) (hb : fl b) :
    Calls Try.prog 54 #[.agg (hl k s cv), .agg (sp a), .agg (sp b)] w fun e w' => e = .returned (.int .i64 (sumI (dl a b k))) ∧ Below w.heap.size w w' := by
  have HA := Aside0.mk ha
  have HB := Aside0.mk hb
  clear ha hb
  go_enter Try.func54, Try.ntmps54
  go_wp2
  go_loopw [7, 8, 11] (fun v7 v8 v11 wr => ∃ j : Nat, j ≤ k ∧ v11 = .int .i64 j ∧ Aside0 (Kd.R (Kd.int .i64) 3 wr w.heap.size (fun x => w.heap.size + 3 ≤ x) v7 (dl a b j)) ∧
      Aside0 (wr.heap[w.heap.size + 1]? = some (.cells (sp a) 60 (0, 0))) ∧ Aside0 (wr.heap[w.heap.size + 1 + 1]? = some (.cells (sp b) 60 (0, 0))) ∧ Aside0 (Below w.heap.size w wr)) (fun _ _ v11 _ => k - (intOf v11).toNat)
  case atStart =>
    refine ⟨0, Nat.zero_le _, rfl, ⟨Kd.R_nil _ _ _ _ _⟩, ⟨?_⟩, ⟨?_⟩, ⟨?_⟩⟩
    · exact alo (aln' _ _ (by simp)) _
    · exact aln' _ _ (by simp)
    · exact (((Below.refl _ _).alloc (Nat.le_refl _) _).alloc (by simp) _).alloc (by simp; omega) _
  case round =>
    obtain ⟨j, hj, rfl, HR, HX, HY, HW⟩ := hrel
    by_cases hlt : j < k
    · have hx := sp_cell HX.out j (by omega)
      have hy := sp_cell HY.out j (by omega)
      obtain ⟨x1, x2⟩ := HA.out j (by omega)
      obtain ⟨y1, y2⟩ := HB.out j (by omega)
      have hs := HW.out.size
      have hs3 : w.heap.size + 3 ≤ wr.heap.size := by have := blk_lt HY.out; omega
      have hj3 : (j : Int) < 3 := by omega
      go_wp2
      go_region_held3 (fun w' => w'.cell? ⟨w.heap.size + 1, j, none⟩ = some (.int .i64 (rd a j)) ∧ w'.cell? ⟨w.heap.size + 1 + 1, j, none⟩ = some (.int .i64 (rd b j))) (go_keep)
        (first
          | (go_at_call 84; refine (away_calls _ _ _ (by omega) (by omega)).mono ?_; rintro e w' ⟨rfl, rfl⟩)
          | (refine Kd.R_append_step (Kd.int .i64) (w0 := w) (W := wr.drew) w.heap.size (by rfl) (.tmp 14) (.tmp 22) 22 3 (.int .i64 0) 8 (by rfl) Try.underlying22 info3 (by rfl) (by decide) (by omega) u7 (dl a b j) (ab (rd a j) (rd b j)) [.int .i64 (ab (rd a j) (rd b j))] (fun x => w.heap.size + 3 ≤ x) (fun _ => False) (by rfl) (by rfl) (by rfl) (fun _ h => h.elim) (fun q hq => Nat.le_trans hs3 hq) (Kd.R_drew HR.out) (below_drew1 HW.out) hs (by rw [dl_len]; omega) ?_; intro v1 w1 hR1 hB1 hg1 hat1; have HX1 := Aside0.mk (blk_grown (w := wr.drew) HX.out hg1 (fun e => by have := HR.out.1 _ e.symm; omega)); have HY1 := Aside0.mk (blk_grown (w := wr.drew) HY.out hg1 (fun e => by have := HR.out.1 _ e.symm; omega)); have hx1 := sp_cell HX1.out j (by omega); have hy1 := sp_cell HY1.out j (by omega); have HR1 := Aside0.mk hR1; have HB1 := Aside0.mk hB1; clear hR1 hB1 hg1 hat1))
      clear hx hy hx1 hy1
      go_wp2
      go_roundw
      case rel => exact ⟨j + 1, by omega, by go_num, ⟨by rw [dl_succ]; exact HR1.out⟩, HX1, HY1, HB1⟩
      case measure => simp [intOf]; omega
    · obtain rfl : j = k := by omega
      obtain ⟨A, c, rfl, hlc, hC⟩ := Kd.R_reads HR.out
      have HC := Aside0.mk hC
      have HLC := Aside0.mk hlc
      have HN := Aside0.mk (dl_len a b j)
      clear hC hlc
      have HV : Aside0 (∀ x ∈ dl a b j, -1000000000 ≤ x ∧ x ≤ 1000000000) := ⟨dl_range HA.out HB.out j (by omega)⟩
      go_wp2_with (go_at_call 58; refine (total_calls A c _ _ HC.out HLC.out (by rw [HN.out]; omega) HV.out).mono ?_; rintro e w' ⟨rfl, rfl⟩)
      go_ret
      exact ⟨rfl, HW.out⟩
end Go.Proofs.Ythadaajgjloogaa.L

namespace Go.Proofs.Ythadaajgjloogaa.L
open Go.RowKit Go.Proofs.YthadaajgjloogaaW.PrintWords Go.Proofs.YthadaajgjloogaaW.PrintLast Go.Proofs.YthadaajgjloogaaW.PrintMore
attribute [local go_sem] max2_int min2_int max_two min_two max_three min_three max_four min_four

/-- Positions of k lifts, as far as the machine is concerned: k floors. -/
structure Pos (k : Nat) (s : List Int) : Prop where
  len : s.length = k
  all : ∀ x ∈ s, 0 ≤ x ∧ x ≤ 30
theorem rd_mem {s : List Int} {i : Nat} (h : i < s.length) : rd s i ∈ s := by
  have : rd s i = s[i] := by simp [rd, List.getD, h]
  rw [this]; exact List.getElem_mem h
theorem rd_out {s : List Int} {i : Nat} (h : s.length ≤ i) : rd s i = 0 := by simp [rd, List.getD, h]
theorem Pos.fl {k : Nat} {s : List Int} (h : Pos k s) : fl s := fun i _ => by
  rcases Nat.lt_or_ge i s.length with hi | hi
  · exact h.all _ (rd_mem hi)
  · rw [rd_out hi]; omega

/-- A list in ascending order. -/
def srt (s : List Int) : List Int := s.mergeSort fun x y => decide (x ≤ y)
theorem srt_len (s : List Int) : (srt s).length = s.length := by simp [srt]
theorem srt_mem {s : List Int} {x : Int} : x ∈ srt s ↔ x ∈ s := by simp [srt]
theorem Pos.srt {k : Nat} {s : List Int} (h : Pos k s) : Pos k (srt s) := ⟨by rw [srt_len]; exact h.len, fun x hx => h.all x (srt_mem.1 hx)⟩
theorem Pos.set {k : Nat} {s : List Int} (h : Pos k s) (i : Nat) {x : Int} (hx : 0 ≤ x ∧ x ≤ 30) : Pos k (s.set i x) :=
  ⟨by simpa using h.len, fun y hy => by
    rcases List.mem_or_eq_of_mem_set hy with h1 | h1
    · exact h.all y h1
    · rw [h1]; exact hx⟩
theorem sp_set (s : List Int) (i : Nat) (x : Int) (h : i < s.length) (h3 : s.length ≤ 3) : (sp s).setIfInBounds i (.int .i64 x) = sp (s.set i x) := by
  match s, i, h, h3 with
  | [a], 0, _, _ => rfl
  | [a, b], 0, _, _ => rfl
  | [a, b], 1, _, _ => rfl
  | [a, b, c], 0, _, _ => rfl
  | [a, b, c], 1, _, _ => rfl
  | [a, b, c], 2, _, _ => rfl
theorem sp_put (s t : List Int) (h : t.length = s.length) (h3 : s.length ≤ 3) : Sort.putCells (Value.int .i64) 0 t.toArray (sp s) = sp t := by
  match s, t, h, h3 with
  | [], [], _, _ => rfl
  | [a], [x], _, _ => rfl
  | [a, b], [x, y], _, _ => rfl
  | [a, b, c], [x, y, z], _, _ => rfl
theorem sort_sp (g k : Nat) (s : List Int) (w : World) (h : w.heap[g]? = some (.cells (sp s) 60 (0, 0))) (hk : s.length = k) (h3 : k ≤ 3) :
    Calls Try.prog 105 #[.slice (some ⟨g, 0, none⟩) k 3] w fun e w' => e = .returned (.tuple #[]) ∧ w'.heap[g]? = some (.cells (sp (srt s)) 60 (0, 0)) ∧ w.grownBy w' (some g) := by
  subst hk
  refine (Try.slices_Sort_int g 0 3 s w ?_ (blk_lt h) (by omega)).mono ?_
  · intro j hj
    have hj' : j < s.length := by simpa using hj
    refine ⟨?_, blk_frozen h _⟩
    rw [Nat.zero_add, sp_cell h j (by omega)]
    congr 2
    simp [rd, List.getD, hj']
  · rintro e w' ⟨rfl, n, os, rfl⟩
    refine ⟨rfl, ?_, grownBy_sortedI _⟩
    rw [Sort.heap_grow_old _ _ (by simpa [Sort.putRow, Sort.mapBlock, Sort.ahead] using blk_lt h)]
    show (Sort.mapBlock (Sort.ahead w n) g _).heap[g]? = _
    simp only [Sort.mapBlock, Sort.ahead, Array.getElem?_modify, if_pos, h, Option.map_some, Sort.onCells]
    exact congrArg (fun c => some (Obj.cells c 60 (0, 0))) (sp_put s (srt s) (srt_len s) h3)

set_option maxHeartbeats 1000000 in
theorem has_calls (k : Nat) (s0 : List Int) (cv : Value) (s : List Int) (x : Int) (w : World) (hk3 : k ≤ 3) (hs : s.length = k) :
    Calls Try.prog 57 #[.agg (hl k s0 cv), .agg (sp s), .int .i64 x] w fun e w' => e = .returned (.bool (decide (x ∈ s))) ∧ Below w.heap.size w w' := by
  have HB : Aside0 (((w.alloc (.cells (hl k s0 cv) 62)).alloc (.cells (sp s) 60)).heap[w.heap.size + 1]? = some (.cells (sp s) 60 (0, 0))) := ⟨aln' _ _ (by simp)⟩
  have HS := Aside0.mk hs
  have hk' : (k : Int) ≤ 3 := by omega
  clear hs
  go_enter Try.func57, Try.ntmps57
  go_wp2_with (go_at_call 89; refine (Try.slices_Contains_int (w.heap.size + 1) 0 k 3 s x _ (by rw [HS.out]; exact Nat.le_refl _) (by omega) (fun j hj => by rw [Nat.zero_add, sp_cell HB.out j (by have := HS.out; omega)]; simp [rd])).mono ?_; rintro e w' ⟨rfl, rfl⟩)
  go_ret
  exact ⟨congrArg (fun l : List Int => Ending.returned (Value.bool (decide (x ∈ l)))) (List.take_of_length_le (by rw [HS.out]; exact Nat.le_refl _)), ((Below.refl _ _).alloc (Nat.le_refl _) _).alloc (by simp) _⟩

theorem sp_read {w : World} {g : Nat} {s : List Int} (h : w.heap[g]? = some (.cells (sp s) 60 (0, 0))) : w.cell? ⟨g, 0, none⟩ = some (.int .i64 (rd s 0)) ∧ w.cell? ⟨g, 1, none⟩ = some (.int .i64 (rd s 1)) ∧ w.cell? ⟨g, 2, none⟩ = some (.int .i64 (rd s 2)) ∧
    w.frozen? ⟨g, 0, none⟩ = false ∧ w.frozen? ⟨g, 1, none⟩ = false ∧ w.frozen? ⟨g, 2, none⟩ = false := ⟨blk_cell h 0, blk_cell h 1, blk_cell h 2, blk_frozen h _, blk_frozen h _, blk_frozen h _⟩
theorem sp_store3 {w : World} {g : Nat} {s : List Int} (t : List Int) (h : w.heap[g]? = some (.cells (sp s) 60 (0, 0))) :
    (((w.setCell ⟨g, 0, none⟩ (.int .i64 (rd t 0))).setCell ⟨g, 1, none⟩ (.int .i64 (rd t 1))).setCell ⟨g, 2, none⟩ (.int .i64 (rd t 2))).heap[g]? = some (.cells (sp t) 60 (0, 0)) := by
  rw [blk_set (blk_set (blk_set h 0 _) 1 _) 2 _]; rfl
theorem size60 : (Try.prog.info? 60).map (·.size) = some 3 := by kernel_rfl
theorem size62 : (Try.prog.info? 62).map (·.size) = some 5 := by kernel_rfl
/-- The world under a name, with what is known of it. -/
theorem wpc_world {P : Program} {c : Code} {Q : Exit → Act → World → Prop} {a : Act} {w1 : World} (F : World → Prop) (hF : F w1) (h : ∀ W, F W → c.wp P Q a W) : c.wp P Q a w1 := h w1 hF
theorem wpl_world {P : Program} {ops l : _} {Q : Exit → Act → World → Prop} {a : Act} {w1 : World} (F : World → Prop) (hF : F w1) (h : ∀ W, F W → wpList P ops Q l a W) : wpList P ops Q l a w1 := h w1 hF

set_option maxHeartbeats 1000000 in
theorem moved_calls (k : Nat) (s0 : List Int) (cv : Value) (s : List Int) (i : Nat) (x : Int) (w : World) (hk3 : k ≤ 3) (hs : s.length = k) (hi : i < k) :
    Calls Try.prog 83 #[.agg (hl k s0 cv), .agg (sp s), .int .i64 i, .int .i64 x] w fun e w' => e = .returned (.agg (sp (srt (s.set i x)))) ∧ Below w.heap.size w w' := by
  have HS := Aside0.mk hs
  have hk' : (k : Int) ≤ 3 := by omega
  have hi' : (i : Int) < 3 := by omega
  clear hs
  go_enter Try.func83, Try.ntmps83
  go_upto_region 1 with (fail)
  refine wpc_world (fun W => Aside0 (W.heap[w.heap.size]? = some (.cells (hl k s0 cv) 62 (0, 0))) ∧ Aside0 (W.heap[w.heap.size + 1]? = some (.cells (sp s) 60 (0, 0))) ∧
    Aside0 (W.heap[w.heap.size + 1 + 1]? = some (.cells (sp []) 60 (0, 0))) ∧ Aside0 (Below w.heap.size w W)) ⟨⟨alo (alo (aln _ _) _) _⟩, ⟨alo (aln' _ _ (by simp)) _⟩, ⟨aln' _ _ (by simp)⟩, ⟨(((Below.refl _ _).alloc (Nat.le_refl _) _).alloc (by simp) _).alloc (by simp; omega) _⟩⟩ ?_
  rintro W ⟨H0, H1, H2, HB⟩
  have hc0 : W.cell? ⟨w.heap.size, 0, none⟩ = some (.int .i64 k) := blk_cell H0.out 0
  have hci := sp_cell H1.out i (by omega)
  have hfi := blk_frozen H1.out i
  go_upto_region 2 with (fail)
  refine wpc_world (fun W => Aside0 (W.heap[w.heap.size]? = some (.cells (hl k s0 cv) 62 (0, 0))) ∧ Aside0 (W.heap[w.heap.size + 1]? = some (.cells (sp (s.set i x)) 60 (0, 0))) ∧
    Aside0 (W.heap[w.heap.size + 1 + 1]? = some (.cells (sp []) 60 (0, 0))) ∧ Aside0 (Below w.heap.size w W))
    ⟨⟨blk_far H0.out (by simp) _⟩, ⟨by rw [blk_set H1.out, sp_set s i x (by have := HS.out; omega) (by have := HS.out; omega)]⟩, ⟨blk_far H2.out (by simp) _⟩, ⟨HB.out.setCell (by simp) _⟩⟩ ?_
  clear hc0 hci hfi H0 H1 H2 HB W
  rintro W ⟨H0, H1, H2, HB⟩
  have hc0 : W.cell? ⟨w.heap.size, 0, none⟩ = some (.int .i64 k) := blk_cell H0.out 0
  have HL : Aside0 ((s.set i x).length = k) := ⟨by simp [HS.out]⟩
  go_wp2_with (go_at_call 105; refine (sort_sp (w.heap.size + 1) k (s.set i x) _ H1.out HL.out hk3).mono ?_; rintro e W2 ⟨rfl, hq1, hq2⟩; have Q1 := Aside0.mk hq1; have Q2 := Aside0.mk hq2; have R2 := Aside0.mk (blk_grown H2.out hq2 (by simp)); clear hq1 hq2 hc0; obtain ⟨r0, r1, r2, _, _, _⟩ := sp_read Q1.out; obtain ⟨t0, t1, t2, f0, f1, f2⟩ := sp_read R2.out)
  refine bodyPost_ret (results_single rfl (.cell (w.heap.size + 1 + 1) 60 (sp (srt (s.set i x))) (0, 0) _ rfl (sp_store3 _ R2.out) Try.underlying60 rfl size60 .nil)) rfl ⟨rfl, ?_⟩
  exact (((HB.out.grown Q2.out HB.out.size (fun q e => by cases e; omega)).setCell (by simp; omega) _).setCell (by simp; omega) _).setCell (by simp; omega) _
end Go.Proofs.Ythadaajgjloogaa.L

namespace Go.Proofs.Ythadaajgjloogaa.L
open Go.RowKit Go.Proofs.YthadaajgjloogaaW.PrintWords Go.Proofs.YthadaajgjloogaaW.PrintLast Go.Proofs.YthadaajgjloogaaW.PrintMore
attribute [local go_sem] max2_int min2_int max_two min_two max_three min_three max_four min_four

/-- Element i of a list fits: a floor, not below the one before it. -/
def okAt (l : List Int) (i : Nat) : Prop := 0 ≤ rd l i ∧ rd l i ≤ 30 ∧ (0 < i → rd l ((i : Int) - 1) ≤ rd l i)
instance (l : List Int) (i : Nat) : Decidable (okAt l i) := by unfold okAt; infer_instance
/-- Positions of from 1 to 3 lifts. -/
def posB (l : List Int) : Bool := decide (1 ≤ l.length) && decide (l.length ≤ 3) && decide (∀ i, i < l.length → okAt l i)
theorem posB_iff (l : List Int) : posB l = true ↔ (1 ≤ l.length ∧ l.length ≤ 3) ∧ ∀ i, i < l.length → okAt l i := by
  simp [posB]
def ansP (l : List Int) : Value := if posB l then .tuple #[.agg (sp l), .bool true] else .tuple #[.agg (sp []), .bool false]
theorem ansP_no {l : List Int} (h : ¬ posB l = true) : ansP l = .tuple #[.agg (sp []), .bool false] := by simp [ansP, h]
theorem ansP_yes {l : List Int} (h : posB l = true) : ansP l = .tuple #[.agg (sp l), .bool true] := by simp [ansP, h]
theorem sp_take (l : List Int) (j : Nat) (h : j < l.length) (h3 : l.length ≤ 3) : (sp (l.take j)).setIfInBounds j (.int .i64 (rd l j)) = sp (l.take (j + 1)) := by
  match l, j, h, h3 with
  | [a], 0, _, _ => rfl
  | [a, b], 0, _, _ => rfl
  | [a, b], 1, _, _ => rfl
  | [a, b, c], 0, _, _ => rfl
  | [a, b, c], 1, _, _ => rfl
  | [a, b, c], 2, _, _ => rfl

set_option maxHeartbeats 2000000 in
theorem spotsOf_calls (A : Option Addr) (c : Nat) (l : List Int) (w : World) (hr : Kd.C (Kd.int .i64) w A l.length l) :
    Calls Try.prog 48 #[.slice A l.length c] w fun e w' => e = .returned (ansP l) ∧ Below w.heap.size w w' := by
  have HR := Aside0.mk hr
  have hmx := Kd.C_max hr
  clear hr
  by_cases hlen : 1 ≤ l.length ∧ l.length ≤ 3
  · obtain ⟨h1, h3⟩ := hlen
    have hw : Aside0 (withinB l.length 1 3 = true) := ⟨by simp [withinB]; omega⟩
    go_enter Try.func48, Try.ntmps48
    go_wp2_with (go_at_call 81; refine (within_calls _ _ _ _).mono ?_; rintro e w' ⟨rfl, rfl⟩; rw [hw.out])
    go_loopw [14] (fun v14 wr => ∃ j : Nat, j ≤ l.length ∧ v14 = .int .i64 j ∧ Aside0 (∀ i, i < j → okAt l i) ∧
      Aside0 (wr.heap[w.heap.size]? = some (.cells (sp []) 60 (0, 0))) ∧ Aside0 (wr.heap[w.heap.size + 1]? = some (.cells (sp (l.take j)) 60 (0, 0))) ∧ Aside0 (Below w.heap.size w wr)) (fun v14 _ => l.length - (intOf v14).toNat)
    case atStart => exact ⟨0, Nat.zero_le _, rfl, ⟨fun i hi => by omega⟩, ⟨alo (aln _ _) _⟩, ⟨aln' _ _ (by simp)⟩, ⟨((Below.refl _ _).alloc (Nat.le_refl _) _).alloc (by simp) _⟩⟩
    case round =>
      obtain ⟨j, hj, rfl, HO, HX, HY, HW⟩ := hrel
      by_cases hlt : j < l.length
      · obtain ⟨ad, rfl, hx⟩ := Kd.at_int (Kd.C_below HR.out HW.out) (j : Int) (by omega) (by omega)
        rw [Int.toNat_natCast] at hx
        obtain ⟨t0, t1, t2, f0, f1, f2⟩ := sp_read HX.out
        by_cases hf : 0 ≤ rd l j ∧ rd l j ≤ 30
        · have hw1 : Aside0 (withinB (rd l j) 0 30 = true) := ⟨by simp [withinB, hf]⟩
          have hcj := sp_cell HY.out j (by omega)
          have hfj := blk_frozen HY.out j
          have hj3 : (j : Int) < 3 := by omega
          have HY1 : Aside0 ((wr.setCell ⟨w.heap.size + 1, j, none⟩ (.int .i64 (rd l j))).heap[w.heap.size + 1]? = some (.cells (sp (l.take (j + 1))) 60 (0, 0))) := ⟨by rw [blk_set HY.out, sp_take l j hlt h3]⟩
          have HX1 : Aside0 ((wr.setCell ⟨w.heap.size + 1, j, none⟩ (.int .i64 (rd l j))).heap[w.heap.size]? = some (.cells (sp []) 60 (0, 0))) := ⟨blk_far HX.out (by simp) _⟩
          have HF := Aside0.mk hf
          clear hf t0 t1 t2 f0 f1 f2
          by_cases hz : 0 < j
          · have hz' : decide ((0 : Int) < (j : Int)) = true := decide_eq_true (by omega)
            obtain ⟨ad', he, hx2⟩ := Kd.at_int (Kd.C_below HR.out HW.out) ((j : Int) - 1) (by omega) (by omega)
            cases he
            rw [show ((j : Int) - 1).toNat = j - 1 from by omega] at hx2
            by_cases hle : rd l ((j : Int) - 1) ≤ rd l j
            · have hle' : decide (rd l j < rd l ((j : Int) - 1)) = false := decide_eq_false (by omega)
              have HO1 : Aside0 (∀ i, i < j + 1 → okAt l i) := ⟨fun i hi => by
                rcases Nat.lt_or_ge i j with h | h
                · exact HO.out i h
                · obtain rfl : i = j := by omega
                  exact ⟨HF.out.1, HF.out.2, fun _ => hle⟩⟩
              clear hle
              go_wp2_with (go_at_call 81; refine (within_calls _ _ _ _).mono ?_; rintro e w' ⟨rfl, rfl⟩; rw [hw1.out])
              go_roundw
              case rel => exact ⟨j + 1, by omega, by go_num, HO1, HX1, HY1, ⟨HW.out.setCell (by simp) _⟩⟩
              case measure => simp [intOf]; omega
            · have hle' : decide (rd l j < rd l ((j : Int) - 1)) = true := decide_eq_true (by omega)
              have HP : Aside0 (¬ posB l = true) := ⟨fun h => hle ((((posB_iff l).1 h).2 j hlt).2.2 hz)⟩
              clear hle HX1 HY1 hcj hfj
              obtain ⟨t0, t1, t2, f0, f1, f2⟩ := sp_read HX.out
              go_wp2_with (go_at_call 81; refine (within_calls _ _ _ _).mono ?_; rintro e w' ⟨rfl, rfl⟩; rw [hw1.out])
              refine bodyPost_ret (results_list (rs := [.cell 2 60, .tmp 3]) rfl (by simp) (.cell w.heap.size 60 (sp []) (0, 0) _ rfl (sp_store3 [] HX.out) Try.underlying60 rfl size60 (.tmp .nil))) rfl ⟨by rw [ansP_no HP.out]; rfl, ?_⟩
              exact ((HW.out.setCell (by simp) _).setCell (by simp) _).setCell (by simp) _
          · have hz' : decide ((0 : Int) < (j : Int)) = false := decide_eq_false (by omega)
            have HO1 : Aside0 (∀ i, i < j + 1 → okAt l i) := ⟨fun i hi => by
              rcases Nat.lt_or_ge i j with h | h
              · exact HO.out i h
              · obtain rfl : i = j := by omega
                exact ⟨HF.out.1, HF.out.2, fun h => absurd h hz⟩⟩
            have hz2 : decide (0 < j) = false := decide_eq_false hz
            clear hz
            go_wp2_with (go_at_call 81; refine (within_calls _ _ _ _).mono ?_; rintro e w' ⟨rfl, rfl⟩; rw [hw1.out])
            go_roundw
            case rel => exact ⟨j + 1, by omega, by go_num, HO1, HX1, HY1, ⟨HW.out.setCell (by simp) _⟩⟩
            case measure => simp [intOf]; omega
        · have hw1 : Aside0 (withinB (rd l j) 0 30 = false) := ⟨by simp [withinB]; omega⟩
          have HP : Aside0 (¬ posB l = true) := ⟨fun h => hf ⟨(((posB_iff l).1 h).2 j hlt).1, (((posB_iff l).1 h).2 j hlt).2.1⟩⟩
          clear hf
          go_wp2_with (go_at_call 81; refine (within_calls _ _ _ _).mono ?_; rintro e w' ⟨rfl, rfl⟩; rw [hw1.out])
          refine bodyPost_ret (results_list (rs := [.cell 2 60, .tmp 3]) rfl (by simp) (.cell w.heap.size 60 (sp []) (0, 0) _ rfl (sp_store3 [] HX.out) Try.underlying60 rfl size60 (.tmp .nil))) rfl ⟨by rw [ansP_no HP.out]; rfl, ?_⟩
          exact ((HW.out.setCell (by simp) _).setCell (by simp) _).setCell (by simp) _
      · obtain rfl : j = l.length := by omega
        have HP : Aside0 (posB l = true) := ⟨(posB_iff l).2 ⟨⟨h1, h3⟩, HO.out⟩⟩
        have HT : Aside0 (l.take l.length = l) := ⟨List.take_length⟩
        rw [HT.out] at HY
        obtain ⟨r0, r1, r2, _, _, _⟩ := sp_read HY.out
        obtain ⟨t0, t1, t2, f0, f1, f2⟩ := sp_read HX.out
        go_wp2
        refine bodyPost_ret (results_list (rs := [.cell 2 60, .tmp 3]) rfl (by simp) (.cell w.heap.size 60 (sp l) (0, 0) _ rfl (sp_store3 _ HX.out) Try.underlying60 rfl size60 (.tmp .nil))) rfl ⟨by rw [ansP_yes HP.out]; rfl, ?_⟩
        exact ((HW.out.setCell (by simp) _).setCell (by simp) _).setCell (by simp) _
  · have hw : Aside0 (withinB l.length 1 3 = false) := ⟨by simp [withinB]; omega⟩
    have HP : Aside0 (¬ posB l = true) := ⟨fun h => hlen ((posB_iff l).1 h).1⟩
    clear hlen
    go_enter Try.func48, Try.ntmps48
    go_wp2_with (go_at_call 81; refine (within_calls _ _ _ _).mono ?_; rintro e w' ⟨rfl, rfl⟩; rw [hw.out])
    refine bodyPost_ret (results_list (rs := [.cell 2 60, .tmp 3]) rfl (by simp) (.cell w.heap.size 60 (sp []) (0, 0) _ rfl (aln _ _) Try.underlying60 rfl size60 (.tmp .nil))) rfl ⟨by rw [ansP_no HP.out]; rfl, (Below.refl _ _).alloc (Nat.le_refl _) _⟩
end Go.Proofs.Ythadaajgjloogaa.L

namespace Go.Proofs.Ythadaajgjloogaa.L
open Go.RowKit Go.Proofs.YthadaajgjloogaaW.PrintWords Go.Proofs.YthadaajgjloogaaW.PrintLast Go.Proofs.YthadaajgjloogaaW.PrintMore
attribute [local go_sem] max2_int min2_int max_two min_two max_three min_three max_four min_four

/-- The first place of a list with a property; -1: none. -/
def idxP (p : Int → Bool) : List Int → Int
  | [] => -1
  | x :: r => if p x then 0 else (if idxP p r < 0 then -1 else idxP p r + 1)
theorem rd_cons (x : Int) (r : List Int) (i : Nat) : rd (x :: r) ((i + 1 : Nat) : Int) = rd r i := by simp [rd]
theorem rd_zero (x : Int) (r : List Int) : rd (x :: r) ((0 : Nat) : Int) = x := by simp [rd]
theorem idxP_at (p : Int → Bool) : ∀ (l : List Int) (j : Nat), j < l.length → (∀ i, i < j → p (rd l i) = false) → p (rd l j) = true → idxP p l = j
  | [], j, h, _, _ => by simp at h
  | x :: r, 0, _, _, h => by rw [rd_zero] at h; simp [idxP, h]
  | x :: r, j + 1, h, hn, hy => by
    have h0 := hn 0 (by omega)
    rw [rd_zero] at h0
    have ih := idxP_at p r j (by simpa using h) (fun i hi => by have := hn (i + 1) (by omega); rwa [rd_cons] at this) (by rwa [rd_cons] at hy)
    simp only [idxP, h0, Bool.false_eq_true, if_false]
    rw [ih, if_neg (by omega)]
    omega
theorem idxP_none (p : Int → Bool) : ∀ (l : List Int), (∀ i, i < l.length → p (rd l i) = false) → idxP p l = -1
  | [], _ => rfl
  | x :: r, hn => by
    have h0 := hn 0 (by simp)
    rw [rd_zero] at h0
    have ih := idxP_none p r (fun i hi => by have := hn (i + 1) (by simpa using hi); rwa [rd_cons] at this)
    simp [idxP, h0, ih]

def badF (n : Int) : Bool := !withinB n 0 30
set_option maxHeartbeats 1000000 in
theorem indexBad_calls (A : Option Addr) (c : Nat) (l : List Int) (w : World) (hr : Kd.C (Kd.int .i64) w A l.length l) :
    Calls Try.prog 87 #[.slice A l.length c, .func (.func 80) #[] #[]] w fun e w' => e = .returned (.int .i64 (idxP badF l)) ∧ w = w' := by
  have HR := Aside0.mk hr
  have hmx := Kd.C_max hr
  clear hr
  go_enter Try.func87, Try.ntmps87
  go_wp2
  go_loop [8] (fun v8 => ∃ j : Nat, j ≤ l.length ∧ v8 = .int .i64 j ∧ Aside0 (∀ i, i < j → badF (rd l i) = false)) (fun v8 => l.length - (intOf v8).toNat)
  case atStart => exact ⟨0, Nat.zero_le _, rfl, ⟨fun i hi => by omega⟩⟩
  case round =>
    obtain ⟨j, hj, rfl, HN⟩ := hrel
    by_cases hlt : j < l.length
    · obtain ⟨ad, rfl, hx⟩ := Kd.at_int HR.out (j : Int) (by omega) (by omega)
      rw [Int.toNat_natCast] at hx
      have hc := bad_calls (rd l j) w
      have HC := Aside0.mk hc
      clear hc
      cases hb : badF (rd l j)
      · have HB := Aside0.mk hb
        have HN1 : Aside0 (∀ i, i < j + 1 → badF (rd l i) = false) := ⟨fun i hi => by
          rcases Nat.lt_or_ge i j with h | h
          · exact HN.out i h
          · obtain rfl : i = j := by omega
            exact HB.out⟩
        clear hb
        go_wp2_with (go_at_call 80; refine HC.out.mono ?_; rintro e w' ⟨rfl, rfl⟩; rw [show (!withinB (rd l j) 0 30) = false from HB.out])
        go_round
        case rel => exact ⟨j + 1, by omega, by go_num, HN1⟩
        case measure => simp [intOf]; omega
      · have HB := Aside0.mk hb
        have HI : Aside0 (idxP badF l = j) := ⟨idxP_at badF l j hlt HN.out hb⟩
        clear hb
        go_wp2_with (go_at_call 80; refine HC.out.mono ?_; rintro e w' ⟨rfl, rfl⟩; rw [show (!withinB (rd l j) 0 30) = true from HB.out])
        go_ret
        exact ⟨by rw [HI.out]; rfl, rfl⟩
    · have HI : Aside0 (idxP badF l = -1) := ⟨idxP_none badF l (fun i hi => HN.out i (by omega))⟩
      go_wp2
      go_ret
      exact ⟨by rw [HI.out]; rfl, rfl⟩
theorem containsBad_calls (A : Option Addr) (c : Nat) (l : List Int) (w : World) (hr : Kd.C (Kd.int .i64) w A l.length l) :
    Calls Try.prog 68 #[.slice A l.length c, .func (.func 80) #[] #[]] w fun e w' => e = .returned (.bool (decide (0 ≤ idxP badF l))) ∧ w = w' := by
  have HR := Aside0.mk hr
  clear hr
  go_enter Try.func68, Try.ntmps68
  go_wp2_with (go_at_call 87; refine (indexBad_calls _ _ _ _ HR.out).mono ?_; rintro e w' ⟨rfl, rfl⟩)
  go_ret
  exact ⟨rfl, rfl⟩
end Go.Proofs.Ythadaajgjloogaa.L

namespace Go.Proofs.Ythadaajgjloogaa.L
open Go.RowKit Go.Proofs.YthadaajgjloogaaW.PrintWords Go.Proofs.YthadaajgjloogaaW.PrintLast Go.Proofs.YthadaajgjloogaaW.PrintMore
attribute [local go_sem] max2_int min2_int max_two min_two max_three min_three max_four min_four

/-- Calls: at most 40 floors. -/
def callsB (c : List Int) : Bool := decide (c.length ≤ 40) && decide (idxP badF c < 0)
def hallB (s c : List Int) : Bool := posB s && callsB c
def ansH (s c : List Int) (cv : Value) : Value := if hallB s c then .tuple #[.agg (hl s.length s cv), .bool true] else .tuple #[.agg (hl 0 [] (.slice none 0 0)), .bool false]
theorem ansH_no {s c : List Int} {cv : Value} (h : hallB s c = false) : ansH s c cv = .tuple #[.agg (hl 0 [] (.slice none 0 0)), .bool false] := by simp [ansH, h]
theorem ansH_yes {s c : List Int} {cv : Value} (h : hallB s c = true) : ansH s c cv = .tuple #[.agg (hl s.length s cv), .bool true] := by simp [ansH, h]

theorem hl_read {w : World} {g : Nat} {k : Int} {s : List Int} {cv : Value} (h : w.heap[g]? = some (.cells (hl k s cv) 62 (0, 0))) :
    (w.cell? ⟨g, 0, none⟩ = some (.int .i64 k) ∧ w.cell? ⟨g, 1, none⟩ = some (.int .i64 (rd s 0)) ∧ w.cell? ⟨g, 2, none⟩ = some (.int .i64 (rd s 1)) ∧ w.cell? ⟨g, 3, none⟩ = some (.int .i64 (rd s 2)) ∧ w.cell? ⟨g, 4, none⟩ = some cv) ∧
    (w.frozen? ⟨g, 0, none⟩ = false ∧ w.frozen? ⟨g, 1, none⟩ = false ∧ w.frozen? ⟨g, 2, none⟩ = false ∧ w.frozen? ⟨g, 3, none⟩ = false ∧ w.frozen? ⟨g, 4, none⟩ = false) :=
  ⟨⟨blk_cell h 0, blk_cell h 1, blk_cell h 2, blk_cell h 3, blk_cell h 4⟩, blk_frozen h _, blk_frozen h _, blk_frozen h _, blk_frozen h _, blk_frozen h _⟩
theorem hl_store5 {w : World} {g : Nat} {k : Int} {s : List Int} {cv : Value} (k' : Int) (t : List Int) (cv' : Value) (h : w.heap[g]? = some (.cells (hl k s cv) 62 (0, 0))) :
    (((((w.setCell ⟨g, 0, none⟩ (.int .i64 k')).setCell ⟨g, 1, none⟩ (.int .i64 (rd t 0))).setCell ⟨g, 2, none⟩ (.int .i64 (rd t 1))).setCell ⟨g, 3, none⟩ (.int .i64 (rd t 2))).setCell ⟨g, 4, none⟩ cv').heap[g]? = some (.cells (hl k' t cv') 62 (0, 0)) := by
  rw [blk_set (blk_set (blk_set (blk_set (blk_set h 0 _) 1 _) 2 _) 3 _) 4 _]; rfl

set_option maxHeartbeats 4000000 in
theorem newHall_calls (A B : Option Addr) (ca cb : Nat) (s c : List Int) (w : World) (hr : Kd.C (Kd.int .i64) w A s.length s) (hq : Kd.C (Kd.int .i64) w B c.length c) :
    Calls Try.prog 47 #[.slice A s.length ca, .slice B c.length cb] w fun e w' => e = .returned (ansH s c (.slice B c.length cb)) ∧ Below w.heap.size w w' := by
  have HR := Aside0.mk hr
  have HQ := Aside0.mk hq
  have hmx := Kd.C_max hq
  clear hr hq
  have B0 : Aside0 (Below w.heap.size w (w.alloc (.cells (hl 0 [] (.slice none 0 0)) 62))) := ⟨(Below.refl _ _).alloc (Nat.le_refl _) _⟩
  cases hp : posB s
  · have HP : Aside0 (ansP s = .tuple #[.agg #[.int .i64 0, .int .i64 0, .int .i64 0], .bool false]) := ⟨ansP_no (l := s) (by rw [hp]; simp)⟩
    have HH : Aside0 (hallB s c = false) := ⟨by simp [hallB, hp]⟩
    clear hp
    go_enter Try.func47, Try.ntmps47
    go_wp2_with (go_at_call 48; refine (spotsOf_calls _ _ _ _ (Kd.C_below HR.out B0.out)).mono ?_; rintro e W ⟨rfl, hb⟩; rw [HP.out]; have HB := Aside0.mk hb; have HG := Aside0.mk ((hb.block w.heap.size (by simp)).trans (aln _ _)); have HZ := blk_lt HG.out; have BW := Aside0.mk (below_then B0.out (by simp) hb); have BQ := Aside0.mk (Kd.C_below HQ.out BW.out); clear hb; obtain ⟨⟨c0, c1, c2, c3, c4⟩, f0, f1, f2, f3, f4⟩ := hl_read HG.out)
    refine bodyPost_ret (results_list (rs := [.cell 4 62, .tmp 5]) rfl (by simp) (.cell w.heap.size 62 (hl 0 [] (.slice none 0 0)) (0, 0) _ rfl (alo (hl_store5 0 [] (.slice none 0 0) HG.out) _) Try.underlying62 rfl size62 (.tmp .nil))) rfl ⟨by rw [ansH_no HH.out]; rfl, ?_⟩
    exact (((((BW.out.setCell (by simp) _).setCell (by simp) _).setCell (by simp) _).setCell (by simp) _).setCell (by simp) _).alloc (by simp only [World.size_setCell]; exact BW.out.size) _
  · have HP : Aside0 (ansP s = .tuple #[.agg #[.int .i64 (rd s 0), .int .i64 (rd s 1), .int .i64 (rd s 2)], .bool true]) := ⟨ansP_yes (l := s) hp⟩
    by_cases h40 : c.length ≤ 40
    · have h40' : decide ((40 : Int) < (c.length : Int)) = false := decide_eq_false (by omega)
      by_cases hi : 0 ≤ idxP badF c
      · have HI : Aside0 (decide (0 ≤ idxP badF c) = true) := ⟨decide_eq_true hi⟩
        have HH : Aside0 (hallB s c = false) := ⟨by simp [hallB, callsB]; intros; omega⟩
        clear hp hi
        go_enter Try.func47, Try.ntmps47
        go_wp2_with (first | (go_at_call 48; refine (spotsOf_calls _ _ _ _ (Kd.C_below HR.out B0.out)).mono ?_; rintro e W ⟨rfl, hb⟩; rw [HP.out]; have HB := Aside0.mk hb; have HG := Aside0.mk ((hb.block w.heap.size (by simp)).trans (aln _ _)); have HZ := blk_lt HG.out; have BW := Aside0.mk (below_then B0.out (by simp) hb); have BQ := Aside0.mk (Kd.C_below HQ.out BW.out); clear hb; obtain ⟨⟨c0, c1, c2, c3, c4⟩, f0, f1, f2, f3, f4⟩ := hl_read HG.out) | (go_at_call 68; refine (containsBad_calls _ _ _ _ (Kd.C_alloc BQ.out _)).mono ?_; rintro e W2 ⟨rfl, rfl⟩; rw [HI.out]))
        refine bodyPost_ret (results_list (rs := [.cell 4 62, .tmp 5]) rfl (by simp) (.cell w.heap.size 62 (hl 0 [] (.slice none 0 0)) (0, 0) _ rfl (alo (hl_store5 0 [] (.slice none 0 0) HG.out) _) Try.underlying62 rfl size62 (.tmp .nil))) rfl ⟨by rw [ansH_no HH.out]; rfl, ?_⟩
        exact (((((BW.out.setCell (by simp) _).setCell (by simp) _).setCell (by simp) _).setCell (by simp) _).setCell (by simp) _).alloc (by simp only [World.size_setCell]; exact BW.out.size) _
      · have HI : Aside0 (decide (0 ≤ idxP badF c) = false) := ⟨decide_eq_false hi⟩
        have HH : Aside0 (hallB s c = true) := ⟨by simp [hallB, callsB, hp, h40]; omega⟩
        clear hp hi
        go_enter Try.func47, Try.ntmps47
        go_wp2_with (first | (go_at_call 48; refine (spotsOf_calls _ _ _ _ (Kd.C_below HR.out B0.out)).mono ?_; rintro e W ⟨rfl, hb⟩; rw [HP.out]; have HB := Aside0.mk hb; have HG := Aside0.mk ((hb.block w.heap.size (by simp)).trans (aln _ _)); have HZ := blk_lt HG.out; have BW := Aside0.mk (below_then B0.out (by simp) hb); have BQ := Aside0.mk (Kd.C_below HQ.out BW.out); clear hb; obtain ⟨⟨c0, c1, c2, c3, c4⟩, f0, f1, f2, f3, f4⟩ := hl_read HG.out) | (go_at_call 68; refine (containsBad_calls _ _ _ _ (Kd.C_alloc BQ.out _)).mono ?_; rintro e W2 ⟨rfl, rfl⟩; rw [HI.out]))
        refine bodyPost_ret (results_list (rs := [.cell 4 62, .tmp 5]) rfl (by simp) (.cell w.heap.size 62 (hl s.length s (.slice B c.length cb)) (0, 0) _ rfl (alo (hl_store5 s.length s (.slice B c.length cb) HG.out) _) Try.underlying62 rfl size62 (.tmp .nil))) rfl ⟨by rw [ansH_yes HH.out]; rfl, ?_⟩
        exact (((((BW.out.setCell (by simp) _).setCell (by simp) _).setCell (by simp) _).setCell (by simp) _).setCell (by simp) _).alloc (by simp only [World.size_setCell]; exact BW.out.size) _
    · have h40' : decide ((40 : Int) < (c.length : Int)) = true := decide_eq_true (by omega)
      have HH : Aside0 (hallB s c = false) := ⟨by simp [hallB, callsB]; intros; omega⟩
      clear hp h40
      go_enter Try.func47, Try.ntmps47
      go_wp2_with (go_at_call 48; refine (spotsOf_calls _ _ _ _ (Kd.C_below HR.out B0.out)).mono ?_; rintro e W ⟨rfl, hb⟩; rw [HP.out]; have HB := Aside0.mk hb; have HG := Aside0.mk ((hb.block w.heap.size (by simp)).trans (aln _ _)); have HZ := blk_lt HG.out; have BW := Aside0.mk (below_then B0.out (by simp) hb); have BQ := Aside0.mk (Kd.C_below HQ.out BW.out); clear hb; obtain ⟨⟨c0, c1, c2, c3, c4⟩, f0, f1, f2, f3, f4⟩ := hl_read HG.out)
      refine bodyPost_ret (results_list (rs := [.cell 4 62, .tmp 5]) rfl (by simp) (.cell w.heap.size 62 (hl 0 [] (.slice none 0 0)) (0, 0) _ rfl (alo (hl_store5 0 [] (.slice none 0 0) HG.out) _) Try.underlying62 rfl size62 (.tmp .nil))) rfl ⟨by rw [ansH_no HH.out]; rfl, ?_⟩
      exact (((((BW.out.setCell (by simp) _).setCell (by simp) _).setCell (by simp) _).setCell (by simp) _).setCell (by simp) _).alloc (by simp only [World.size_setCell]; exact BW.out.size) _
end Go.Proofs.Ythadaajgjloogaa.L

namespace Go.Proofs.Ythadaajgjloogaa.L
open Go.RowKit Go.Proofs.YthadaajgjloogaaW.PrintWords Go.Proofs.YthadaajgjloogaaW.PrintLast Go.Proofs.YthadaajgjloogaaW.PrintMore
attribute [local go_sem] max2_int min2_int max_two min_two max_three min_three max_four min_four

/-! ### careful (56) -/
/-- The first lift above a floor, and what it and the one below it move by. -/
def upI (s : List Int) (x : Int) : Int := idxP (fun n => decide (x < n)) s
def stepI (s : List Int) (x : Int) : Int := if rd s (upI s x) - x ≤ x - rd s (upI s x - 1) then rd s (upI s x) - x else x - rd s (upI s x - 1)
def carefulF (s : List Int) (x : Int) : List Int :=
  if x ∈ s then s else if x < rd s 0 then s.set 0 x else if rd s ((s.length : Int) - 1) < x then s.set (s.length - 1) x
  else (s.set (upI s x).toNat (rd s (upI s x) - stepI s x)).set ((upI s x).toNat - 1) (rd s (upI s x - 1) + stepI s x)

structure Cw (w W : World) (k : Nat) (s0 : List Int) (cv : Value) (s : List Int) (x : Int) : Prop where
  h3 : W.heap[w.heap.size]? = some (.cells (hl k s0 cv) 62 (0, 0))
  h4 : W.heap[w.heap.size + 1]? = some (.cells (sp s) 60 (0, 0))
  h5 : W.heap[w.heap.size + 1 + 1]? = some (.cells #[.int .i64 x] 3 (0, 0))
  h6 : W.heap[w.heap.size + 1 + 1 + 1]? = some (.cells (sp []) 60 (0, 0))
  hb : Below w.heap.size w W
theorem Cw.below {w W W2 : World} {k : Nat} {s0 : List Int} {cv : Value} {s : List Int} {x : Int} (h : Cw w W k s0 cv s x) (hb : Below W.heap.size W W2) : Cw w W2 k s0 cv s x :=
  ⟨(hb.block _ (blk_lt h.h3)).trans h.h3, (hb.block _ (blk_lt h.h4)).trans h.h4, (hb.block _ (blk_lt h.h5)).trans h.h5, (hb.block _ (blk_lt h.h6)).trans h.h6, below_then h.hb h.hb.size hb⟩
theorem Cw.first (w : World) (k : Nat) (s0 : List Int) (cv : Value) (s : List Int) (x : Int) :
    Cw w ((((w.alloc (.cells (hl k s0 cv) 62)).alloc (.cells (sp s) 60)).alloc (.cells #[.int .i64 x] 3)).alloc (.cells (sp []) 60)) k s0 cv s x :=
  ⟨alo (alo (alo (aln _ _) _) _) _, alo (alo (aln' _ _ (by simp)) _) _, alo (aln' _ _ (by simp)) _, aln' _ _ (by simp), ((((Below.refl _ _).alloc (Nat.le_refl _) _).alloc (by simp) _).alloc (by simp; omega) _).alloc (by simp; omega) _⟩

set_option maxHeartbeats 2000000 in
theorem careful_has (k : Nat) (s0 : List Int) (cv : Value) (s : List Int) (x : Int) (w : World) (hk1 : 1 ≤ k) (hk3 : k ≤ 3) (hs : s.length = k) (hx : x ∈ s) :
    Calls Try.prog 56 #[.agg (hl k s0 cv), .agg (sp s), .int .i64 x] w fun e w' => e = .returned (.agg (sp (carefulF s x))) ∧ Below w.heap.size w w' := by
  have HF : Aside0 (carefulF s x = s) := ⟨by simp [carefulF, hx]⟩
  have HS := Aside0.mk hs
  have HX := Aside0.mk (decide_eq_true hx)
  clear hs hx
  go_enter Try.func56, Try.ntmps56
  go_upto_region 1 with (fail)
  refine wpc_world (fun W => Aside0 (Cw w W k s0 cv s x)) ⟨Cw.first w k s0 cv s x⟩ ?_
  rintro W HW
  obtain ⟨⟨c0, c1, c2, c3, c4⟩, _⟩ := hl_read HW.out.h3
  obtain ⟨r0, r1, r2, _⟩ := sp_read HW.out.h4
  have x0 := blk_cell HW.out.h5 0
  simp only [List.getElem?_toArray, List.getElem?_cons_zero] at x0
  go_wp2_with (go_at_call 57; refine (has_calls k s0 cv s x _ hk3 HS.out).mono ?_; rintro e W2 ⟨rfl, hb⟩; rw [HX.out]; have HW2 := Aside0.mk (HW.out.below hb); clear hb; obtain ⟨r0, r1, r2, _⟩ := sp_read HW2.out.h4; obtain ⟨t0, t1, t2, f0, f1, f2⟩ := sp_read HW2.out.h6)
  refine bodyPost_ret (results_single rfl (.cell (w.heap.size + 1 + 1 + 1) 60 (sp s) (0, 0) _ rfl (sp_store3 s HW2.out.h6) Try.underlying60 rfl size60 .nil)) rfl ⟨by rw [HF.out] <;> rfl, ?_⟩
  exact ((HW2.out.hb.setCell (show w.heap.size ≤ w.heap.size + 1 + 1 + 1 by omega) _).setCell (show w.heap.size ≤ w.heap.size + 1 + 1 + 1 by omega) _).setCell (show w.heap.size ≤ w.heap.size + 1 + 1 + 1 by omega) _

theorem Cw.set {w W : World} {k : Nat} {s0 : List Int} {cv : Value} {s : List Int} {x : Int} (h : Cw w W k s0 cv s x) (hs3 : s.length ≤ 3) (i : Nat) (hi : i < s.length) (y : Int) : Cw w (W.setCell ⟨w.heap.size + 1, i, none⟩ (.int .i64 y)) k s0 cv (s.set i y) x :=
  ⟨blk_far h.h3 (by simp) _, by rw [blk_set h.h4, sp_set s i y hi hs3], blk_far h.h5 (show w.heap.size + 1 + 1 ≠ w.heap.size + 1 by omega) _, blk_far h.h6 (show w.heap.size + 1 + 1 + 1 ≠ w.heap.size + 1 by omega) _, h.hb.setCell (by simp) _⟩

set_option maxHeartbeats 2000000 in
theorem careful_low (k : Nat) (s0 : List Int) (cv : Value) (s : List Int) (x : Int) (w : World) (hk1 : 1 ≤ k) (hk3 : k ≤ 3) (hs : s.length = k) (hx : x ∉ s) (hlo : x < rd s 0) :
    Calls Try.prog 56 #[.agg (hl k s0 cv), .agg (sp s), .int .i64 x] w fun e w' => e = .returned (.agg (sp (carefulF s x))) ∧ Below w.heap.size w w' := by
  have HF : Aside0 (carefulF s x = s.set 0 x) := ⟨by simp [carefulF, hx, hlo]⟩
  have HS := Aside0.mk hs
  have HX := Aside0.mk (decide_eq_false hx)
  have hlo' := decide_eq_true hlo
  clear hs hx hlo
  go_enter Try.func56, Try.ntmps56
  go_upto_region 1 with (fail)
  refine wpc_world (fun W => Aside0 (Cw w W k s0 cv s x)) ⟨Cw.first w k s0 cv s x⟩ ?_
  rintro W HW
  obtain ⟨⟨c0, c1, c2, c3, c4⟩, _⟩ := hl_read HW.out.h3
  obtain ⟨r0, r1, r2, _⟩ := sp_read HW.out.h4
  have x0 := blk_cell HW.out.h5 0
  simp only [List.getElem?_toArray, List.getElem?_cons_zero] at x0
  go_upto_region 11 with (go_at_call 57; refine (has_calls k s0 cv s x _ hk3 HS.out).mono ?_; rintro e W2 ⟨rfl, hb⟩; rw [HX.out]; have HW2 := Aside0.mk (HW.out.below hb); clear hb; obtain ⟨⟨c0, c1, c2, c3, c4⟩, _⟩ := hl_read HW2.out.h3; obtain ⟨r0, r1, r2, e0, e1, e2⟩ := sp_read HW2.out.h4; have x0 := blk_cell HW2.out.h5 0; simp only [List.getElem?_toArray, List.getElem?_cons_zero] at x0; have cq := sp_cell HW2.out.h4 (k - 1) (by omega); have fq := blk_frozen HW2.out.h4 (k - 1); rw [show ((k - 1 : Nat) : Int) = (k : Int) - 1 from by omega] at cq)
  refine wpc_world (fun W => Aside0 (Cw w W k s0 cv (s.set 0 x) x)) ⟨HW2.out.set (by have := HS.out; omega) 0 (by have := HS.out; omega) x⟩ ?_
  clear r0 r1 r2 e0 e1 e2 x0 cq fq
  rintro W3 HW3
  obtain ⟨r0, r1, r2, _, _, _⟩ := sp_read HW3.out.h4
  obtain ⟨t0, t1, t2, f0, f1, f2⟩ := sp_read HW3.out.h6
  go_wp2
  refine bodyPost_ret (results_single rfl (.cell (w.heap.size + 1 + 1 + 1) 60 (sp (s.set 0 x)) (0, 0) _ rfl (sp_store3 (s.set 0 x) HW3.out.h6) Try.underlying60 rfl size60 .nil)) rfl ⟨by rw [HF.out] <;> rfl, ?_⟩
  exact ((HW3.out.hb.setCell (show w.heap.size ≤ w.heap.size + 1 + 1 + 1 by omega) _).setCell (show w.heap.size ≤ w.heap.size + 1 + 1 + 1 by omega) _).setCell (show w.heap.size ≤ w.heap.size + 1 + 1 + 1 by omega) _

set_option maxHeartbeats 2000000 in
theorem careful_high (k : Nat) (s0 : List Int) (cv : Value) (s : List Int) (x : Int) (w : World) (hk1 : 1 ≤ k) (hk3 : k ≤ 3) (hs : s.length = k) (hx : x ∉ s) (hlo : ¬ x < rd s 0) (hhi : rd s ((k : Int) - 1) < x) :
    Calls Try.prog 56 #[.agg (hl k s0 cv), .agg (sp s), .int .i64 x] w fun e w' => e = .returned (.agg (sp (carefulF s x))) ∧ Below w.heap.size w w' := by
  have HF : Aside0 (carefulF s x = s.set (k - 1) x) := ⟨by simp [carefulF, hx, hlo, hs, hhi]⟩
  have HS := Aside0.mk hs
  have HX := Aside0.mk (decide_eq_false hx)
  have hlo' := decide_eq_false hlo
  have hhi' := decide_eq_true hhi
  have b0 : (0 : Int) ≤ (k : Int) - 1 := by omega
  have b3 : (k : Int) - 1 < 3 := by omega
  have bz : ((k : Int) - 1).toNat = k - 1 := by omega
  clear hs hx hlo hhi
  go_enter Try.func56, Try.ntmps56
  go_upto_region 1 with (fail)
  refine wpc_world (fun W => Aside0 (Cw w W k s0 cv s x)) ⟨Cw.first w k s0 cv s x⟩ ?_
  rintro W HW
  obtain ⟨⟨c0, c1, c2, c3, c4⟩, _⟩ := hl_read HW.out.h3
  obtain ⟨r0, r1, r2, _⟩ := sp_read HW.out.h4
  have x0 := blk_cell HW.out.h5 0
  simp only [List.getElem?_toArray, List.getElem?_cons_zero] at x0
  go_upto_region 9 with (go_at_call 57; refine (has_calls k s0 cv s x _ hk3 HS.out).mono ?_; rintro e W2 ⟨rfl, hb⟩; rw [HX.out]; have HW2 := Aside0.mk (HW.out.below hb); clear hb; obtain ⟨⟨c0, c1, c2, c3, c4⟩, _⟩ := hl_read HW2.out.h3; obtain ⟨r0, r1, r2, e0, e1, e2⟩ := sp_read HW2.out.h4; have x0 := blk_cell HW2.out.h5 0; simp only [List.getElem?_toArray, List.getElem?_cons_zero] at x0; have cq := sp_cell HW2.out.h4 (k - 1) (by omega); have fq := blk_frozen HW2.out.h4 (k - 1); rw [show ((k - 1 : Nat) : Int) = (k : Int) - 1 from by omega] at cq)
  go_quiet (fail)
  go_upto_region 11 with (fail)
  refine wpc_world (fun W => Aside0 (Cw w W k s0 cv (s.set (k - 1) x) x)) ⟨(HW2.out.below (pw_below_drewN (Below.refl _ _) nq)).set (by have := HS.out; omega) (k - 1) (by have := HS.out; omega) x⟩ ?_
  clear r0 r1 r2 e0 e1 e2 x0 cq fq
  rintro W3 HW3
  obtain ⟨r0, r1, r2, _, _, _⟩ := sp_read HW3.out.h4
  obtain ⟨t0, t1, t2, f0, f1, f2⟩ := sp_read HW3.out.h6
  go_wp2
  refine bodyPost_ret (results_single rfl (.cell (w.heap.size + 1 + 1 + 1) 60 (sp (s.set (k - 1) x)) (0, 0) _ rfl (sp_store3 (s.set (k - 1) x) HW3.out.h6) Try.underlying60 rfl size60 .nil)) rfl ⟨by rw [HF.out] <;> rfl, ?_⟩
  exact ((HW3.out.hb.setCell (show w.heap.size ≤ w.heap.size + 1 + 1 + 1 by omega) _).setCell (show w.heap.size ≤ w.heap.size + 1 + 1 + 1 by omega) _).setCell (show w.heap.size ≤ w.heap.size + 1 + 1 + 1 by omega) _

/-! the floor lies between two lifts -/
theorem above_calls (b : Nat) (n x : Int) (w : World) (h : w.cell? ⟨b, 0, none⟩ = some (.int .i64 x)) :
    Calls Try.prog 88 #[.int .i64 n, .pointer (some ⟨b, 0, none⟩)] w fun e w' => e = .returned (.bool (decide (x < n))) ∧ w = w' := by
  go_enter Try.func88, Try.ntmps88
  go_wp2
  go_ret
  exact ⟨rfl, rfl⟩
set_option maxHeartbeats 1000000 in
theorem indexAbove_calls (A : Option Addr) (c : Nat) (l : List Int) (b : Nat) (x : Int) (w : World) (hr : Kd.C (Kd.int .i64) w A l.length l) (hx : w.cell? ⟨b, 0, none⟩ = some (.int .i64 x)) :
    Calls Try.prog 87 #[.slice A l.length c, .func (.func 88) #[] #[.pointer (some ⟨b, 0, none⟩)]] w fun e w' => e = .returned (.int .i64 (upI l x)) ∧ w = w' := by
  have HR := Aside0.mk hr
  have HX := Aside0.mk hx
  have hmx := Kd.C_max hr
  clear hr hx
  go_enter Try.func87, Try.ntmps87
  go_wp2
  go_loop [8] (fun v8 => ∃ j : Nat, j ≤ l.length ∧ v8 = .int .i64 j ∧ Aside0 (∀ i, i < j → decide (x < rd l i) = false)) (fun v8 => l.length - (intOf v8).toNat)
  case atStart => exact ⟨0, Nat.zero_le _, rfl, ⟨fun i hi => by omega⟩⟩
  case round =>
    obtain ⟨j, hj, rfl, HN⟩ := hrel
    by_cases hlt : j < l.length
    · obtain ⟨ad, rfl, hx⟩ := Kd.at_int HR.out (j : Int) (by omega) (by omega)
      rw [Int.toNat_natCast] at hx
      have hc := above_calls b (rd l j) x w HX.out
      have HC := Aside0.mk hc
      clear hc
      cases hb : decide (x < rd l j)
      · have HB := Aside0.mk hb
        have HN1 : Aside0 (∀ i, i < j + 1 → decide (x < rd l i) = false) := ⟨fun i hi => by
          rcases Nat.lt_or_ge i j with h | h
          · exact HN.out i h
          · obtain rfl : i = j := by omega
            exact HB.out⟩
        clear hb
        go_wp2_with (go_at_call 88; refine HC.out.mono ?_; rintro e w' ⟨rfl, rfl⟩; rw [HB.out])
        go_round
        case rel => exact ⟨j + 1, by omega, by go_num, HN1⟩
        case measure => simp [intOf]; omega
      · have HB := Aside0.mk hb
        have HI : Aside0 (upI l x = j) := ⟨idxP_at _ l j hlt HN.out hb⟩
        clear hb
        go_wp2_with (go_at_call 88; refine HC.out.mono ?_; rintro e w' ⟨rfl, rfl⟩; rw [HB.out])
        go_ret
        exact ⟨by rw [HI.out]; rfl, rfl⟩
    · have HI : Aside0 (upI l x = -1) := ⟨idxP_none _ l (fun i hi => HN.out i (by omega))⟩
      go_wp2
      go_ret
      exact ⟨by rw [HI.out]; rfl, rfl⟩
theorem sp_C {w : World} {g : Nat} {s : List Int} (h : w.heap[g]? = some (.cells (sp s) 60 (0, 0))) (h3 : s.length ≤ 3) (h1 : 1 ≤ s.length) : Kd.C (Kd.int .i64) w (some ⟨g, 0, none⟩) s.length s := by
  refine Kd.C_of_reads (d := (0 : Int)) (h1 := fun _ => rfl) ⟨rfl, by omega, fun _ => ⟨_, rfl, fun j hj => ?_⟩⟩
  rw [add_plain, sp_cell h j (by omega)]
  rfl

theorem indexAbove_sp (g k : Nat) (s : List Int) (b : Nat) (x : Int) (w : World) (h : w.heap[g]? = some (.cells (sp s) 60 (0, 0))) (hs : s.length = k) (hk1 : 1 ≤ k) (hk3 : k ≤ 3) (hx : w.cell? ⟨b, 0, none⟩ = some (.int .i64 x)) :
    Calls Try.prog 87 #[.slice (some ⟨g, 0, none⟩) k 3, .func (.func 88) #[] #[.pointer (some ⟨b, 0, none⟩)]] w fun e w' => e = .returned (.int .i64 (upI s x)) ∧ w = w' := by
  subst hs
  exact indexAbove_calls _ 3 s b x w (sp_C h hk3 hk1) hx

theorem rd_set_ne {s : List Int} {i j : Nat} (h : j ≠ i) (y : Int) : rd (s.set i y) j = rd s j := by
  simp [rd, Ne.symm h]
set_option maxHeartbeats 2000000 in
theorem careful_midA (k : Nat) (s0 : List Int) (cv : Value) (s : List Int) (x : Int) (w : World) (hk1 : 1 ≤ k) (hk3 : k ≤ 3) (hs : s.length = k) (hfl : fl s) (hx0 : 0 ≤ x ∧ x ≤ 30) (hx : x ∉ s) (hlo : ¬ x < rd s 0) (hhi : ¬ rd s ((k : Int) - 1) < x)
    (u : Nat) (hu : upI s x = u) (hu1 : 1 ≤ u) (huk : u < k) (hA : rd s u - x ≤ x - rd s ((u : Int) - 1)) :
    Calls Try.prog 56 #[.agg (hl k s0 cv), .agg (sp s), .int .i64 x] w fun e w' => e = .returned (.agg (sp (carefulF s x))) ∧ Below w.heap.size w w' := by
  have HD : stepI s x = rd s u - x := by simp [stepI, hu, hA]
  have HF : Aside0 (carefulF s x = (s.set u (rd s u - (rd s u - x))).set (u - 1) (rd s ((u : Int) - 1) + (rd s u - x))) := ⟨by simp [carefulF, hx, hlo, hs, hhi, hu, HD]⟩
  have HS := Aside0.mk hs
  have HX := Aside0.mk (decide_eq_false hx)
  have HU := Aside0.mk hu
  have hlo' := decide_eq_false hlo
  have hhi' := decide_eq_false hhi
  have b0 : (0 : Int) ≤ (k : Int) - 1 := by omega
  have b3 : (k : Int) - 1 < 3 := by omega
  have bz : ((k : Int) - 1).toNat = k - 1 := by omega
  have bu0 : (0 : Int) ≤ (u : Int) - 1 := by omega
  have bu3 : (u : Int) - 1 < 3 := by omega
  have buz : ((u : Int) - 1).toNat = u - 1 := by omega
  have bu3' : (u : Int) < 3 := by omega
  obtain ⟨p0, p1⟩ := hfl u (by omega)
  have hq := hfl (u - 1) (by omega)
  rw [show ((u - 1 : Nat) : Int) = (u : Int) - 1 from by omega] at hq
  obtain ⟨q0, q1⟩ := hq
  obtain ⟨x0', x1'⟩ := hx0
  have hmin := decide_eq_false (Int.not_lt.2 hA)
  have hmin2 := Int.not_lt.2 hA
  clear hs hx hlo hhi hu HD hfl hA
  go_enter Try.func56, Try.ntmps56
  go_upto_region 1 with (fail)
  refine wpc_world (fun W => Aside0 (Cw w W k s0 cv s x)) ⟨Cw.first w k s0 cv s x⟩ ?_
  rintro W HW
  obtain ⟨⟨c0, c1, c2, c3, c4⟩, _⟩ := hl_read HW.out.h3
  obtain ⟨r0, r1, r2, _⟩ := sp_read HW.out.h4
  have x0 := blk_cell HW.out.h5 0
  simp only [List.getElem?_toArray, List.getElem?_cons_zero] at x0
  go_upto_region 9 with (go_at_call 57; refine (has_calls k s0 cv s x _ hk3 HS.out).mono ?_; rintro e W2 ⟨rfl, hb⟩; rw [HX.out]; have HW2 := Aside0.mk (HW.out.below hb); clear hb; obtain ⟨⟨c0, c1, c2, c3, c4⟩, _⟩ := hl_read HW2.out.h3; obtain ⟨r0, r1, r2, e0, e1, e2⟩ := sp_read HW2.out.h4; have x0 := blk_cell HW2.out.h5 0; simp only [List.getElem?_toArray, List.getElem?_cons_zero] at x0; have cq := sp_cell HW2.out.h4 (k - 1) (by omega); have fq := blk_frozen HW2.out.h4 (k - 1); rw [show ((k - 1 : Nat) : Int) = (k : Int) - 1 from by omega] at cq)
  go_quiet (fail)
  have hk' : (k : Int) ≤ 3 := by omega
  go_upto_region 3 with (go_at_call 87; refine (indexAbove_sp (w.heap.size + 1) k s (w.heap.size + 1 + 1) x (W2.drewN nq) HW2.out.h4 HS.out hk1 hk3 x0).mono ?_; rintro e W3 ⟨rfl, rfl⟩; rw [HU.out])
  have cu := sp_cell HW2.out.h4 u (by omega)
  have cv1 := sp_cell HW2.out.h4 (u - 1) (by omega)
  have fu := blk_frozen HW2.out.h4 u
  rw [show ((u - 1 : Nat) : Int) = (u : Int) - 1 from by omega] at cv1
  go_quiet (fail)
  go_upto_region 5 with (fail)
  refine wpc_world (fun W => Aside0 (Cw w W k s0 cv (s.set u (rd s u - (rd s u - x))) x)) ⟨(HW2.out.below (pw_below_drewN (Below.refl _ _) _)).set (by have := HS.out; omega) u (by have := HS.out; omega) _⟩ ?_
  clear r0 r1 r2 e0 e1 e2 x0 cq fq cu cv1 fu
  rintro W4 HW4
  have cv1 := sp_cell HW4.out.h4 (u - 1) (by omega)
  have fu := blk_frozen HW4.out.h4 (u - 1)
  rw [rd_set_ne (by omega), show ((u - 1 : Nat) : Int) = (u : Int) - 1 from by omega] at cv1
  go_upto_region 11 with (fail)
  refine wpc_world (fun W => Aside0 (Cw w W k s0 cv ((s.set u (rd s u - (rd s u - x))).set (u - 1) (rd s ((u : Int) - 1) + (rd s u - x))) x)) ⟨HW4.out.set (by have := HS.out; simp; omega) (u - 1) (by have := HS.out; simp; omega) _⟩ ?_
  clear cv1 fu
  rintro W3 HW3
  obtain ⟨r0, r1, r2, _, _, _⟩ := sp_read HW3.out.h4
  obtain ⟨t0, t1, t2, f0, f1, f2⟩ := sp_read HW3.out.h6
  go_wp2
  refine bodyPost_ret (results_single rfl (.cell (w.heap.size + 1 + 1 + 1) 60 (sp _) (0, 0) _ rfl (sp_store3 _ HW3.out.h6) Try.underlying60 rfl size60 .nil)) rfl ⟨by rw [HF.out] <;> rfl, ?_⟩
  exact ((HW3.out.hb.setCell (show w.heap.size ≤ w.heap.size + 1 + 1 + 1 by omega) _).setCell (show w.heap.size ≤ w.heap.size + 1 + 1 + 1 by omega) _).setCell (show w.heap.size ≤ w.heap.size + 1 + 1 + 1 by omega) _

set_option maxHeartbeats 2000000 in
theorem careful_midB (k : Nat) (s0 : List Int) (cv : Value) (s : List Int) (x : Int) (w : World) (hk1 : 1 ≤ k) (hk3 : k ≤ 3) (hs : s.length = k) (hfl : fl s) (hx0 : 0 ≤ x ∧ x ≤ 30) (hx : x ∉ s) (hlo : ¬ x < rd s 0) (hhi : ¬ rd s ((k : Int) - 1) < x)
    (u : Nat) (hu : upI s x = u) (hu1 : 1 ≤ u) (huk : u < k) (hA : ¬ rd s u - x ≤ x - rd s ((u : Int) - 1)) :
    Calls Try.prog 56 #[.agg (hl k s0 cv), .agg (sp s), .int .i64 x] w fun e w' => e = .returned (.agg (sp (carefulF s x))) ∧ Below w.heap.size w w' := by
  have HD : stepI s x = x - rd s ((u : Int) - 1) := by simp [stepI, hu, hA]
  have HF : Aside0 (carefulF s x = (s.set u (rd s u - (x - rd s ((u : Int) - 1)))).set (u - 1) (rd s ((u : Int) - 1) + (x - rd s ((u : Int) - 1)))) := ⟨by simp [carefulF, hx, hlo, hs, hhi, hu, HD]⟩
  have HS := Aside0.mk hs
  have HX := Aside0.mk (decide_eq_false hx)
  have HU := Aside0.mk hu
  have hlo' := decide_eq_false hlo
  have hhi' := decide_eq_false hhi
  have b0 : (0 : Int) ≤ (k : Int) - 1 := by omega
  have b3 : (k : Int) - 1 < 3 := by omega
  have bz : ((k : Int) - 1).toNat = k - 1 := by omega
  have bu0 : (0 : Int) ≤ (u : Int) - 1 := by omega
  have bu3 : (u : Int) - 1 < 3 := by omega
  have buz : ((u : Int) - 1).toNat = u - 1 := by omega
  have bu3' : (u : Int) < 3 := by omega
  obtain ⟨p0, p1⟩ := hfl u (by omega)
  have hq := hfl (u - 1) (by omega)
  rw [show ((u - 1 : Nat) : Int) = (u : Int) - 1 from by omega] at hq
  obtain ⟨q0, q1⟩ := hq
  obtain ⟨x0', x1'⟩ := hx0
  have hmin := decide_eq_true (Int.not_le.1 hA)
  have hmin2 := Int.not_le.1 hA
  clear hs hx hlo hhi hu HD hfl hA
  go_enter Try.func56, Try.ntmps56
  go_upto_region 1 with (fail)
  refine wpc_world (fun W => Aside0 (Cw w W k s0 cv s x)) ⟨Cw.first w k s0 cv s x⟩ ?_
  rintro W HW
  obtain ⟨⟨c0, c1, c2, c3, c4⟩, _⟩ := hl_read HW.out.h3
  obtain ⟨r0, r1, r2, _⟩ := sp_read HW.out.h4
  have x0 := blk_cell HW.out.h5 0
  simp only [List.getElem?_toArray, List.getElem?_cons_zero] at x0
  go_upto_region 9 with (go_at_call 57; refine (has_calls k s0 cv s x _ hk3 HS.out).mono ?_; rintro e W2 ⟨rfl, hb⟩; rw [HX.out]; have HW2 := Aside0.mk (HW.out.below hb); clear hb; obtain ⟨⟨c0, c1, c2, c3, c4⟩, _⟩ := hl_read HW2.out.h3; obtain ⟨r0, r1, r2, e0, e1, e2⟩ := sp_read HW2.out.h4; have x0 := blk_cell HW2.out.h5 0; simp only [List.getElem?_toArray, List.getElem?_cons_zero] at x0; have cq := sp_cell HW2.out.h4 (k - 1) (by omega); have fq := blk_frozen HW2.out.h4 (k - 1); rw [show ((k - 1 : Nat) : Int) = (k : Int) - 1 from by omega] at cq)
  go_quiet (fail)
  have hk' : (k : Int) ≤ 3 := by omega
  go_upto_region 3 with (go_at_call 87; refine (indexAbove_sp (w.heap.size + 1) k s (w.heap.size + 1 + 1) x (W2.drewN nq) HW2.out.h4 HS.out hk1 hk3 x0).mono ?_; rintro e W3 ⟨rfl, rfl⟩; rw [HU.out])
  have cu := sp_cell HW2.out.h4 u (by omega)
  have cv1 := sp_cell HW2.out.h4 (u - 1) (by omega)
  have fu := blk_frozen HW2.out.h4 u
  rw [show ((u - 1 : Nat) : Int) = (u : Int) - 1 from by omega] at cv1
  go_quiet (fail)
  go_upto_region 5 with (fail)
  refine wpc_world (fun W => Aside0 (Cw w W k s0 cv (s.set u (rd s u - (x - rd s ((u : Int) - 1)))) x)) ⟨(HW2.out.below (pw_below_drewN (Below.refl _ _) _)).set (by have := HS.out; omega) u (by have := HS.out; omega) _⟩ ?_
  clear r0 r1 r2 e0 e1 e2 x0 cq fq cu cv1 fu
  rintro W4 HW4
  have cv1 := sp_cell HW4.out.h4 (u - 1) (by omega)
  have fu := blk_frozen HW4.out.h4 (u - 1)
  rw [rd_set_ne (by omega), show ((u - 1 : Nat) : Int) = (u : Int) - 1 from by omega] at cv1
  go_upto_region 11 with (fail)
  refine wpc_world (fun W => Aside0 (Cw w W k s0 cv ((s.set u (rd s u - (x - rd s ((u : Int) - 1)))).set (u - 1) (rd s ((u : Int) - 1) + (x - rd s ((u : Int) - 1)))) x)) ⟨HW4.out.set (by have := HS.out; simp; omega) (u - 1) (by have := HS.out; simp; omega) _⟩ ?_
  clear cv1 fu
  rintro W3 HW3
  obtain ⟨r0, r1, r2, _, _, _⟩ := sp_read HW3.out.h4
  obtain ⟨t0, t1, t2, f0, f1, f2⟩ := sp_read HW3.out.h6
  go_wp2
  refine bodyPost_ret (results_single rfl (.cell (w.heap.size + 1 + 1 + 1) 60 (sp _) (0, 0) _ rfl (sp_store3 _ HW3.out.h6) Try.underlying60 rfl size60 .nil)) rfl ⟨by rw [HF.out] <;> rfl, ?_⟩
  exact ((HW3.out.hb.setCell (show w.heap.size ≤ w.heap.size + 1 + 1 + 1 by omega) _).setCell (show w.heap.size ≤ w.heap.size + 1 + 1 + 1 by omega) _).setCell (show w.heap.size ≤ w.heap.size + 1 + 1 + 1 by omega) _

theorem idxP_spec (p : Int → Bool) : ∀ (l : List Int), (∃ i : Nat, i < l.length ∧ p (rd l i) = true) → ∃ j : Nat, j < l.length ∧ idxP p l = j ∧ p (rd l j) = true ∧ ∀ i, i < j → p (rd l i) = false
  | l, ⟨i, hi, hp⟩ => by
    induction i using Nat.strongRecOn with
    | _ i ih =>
      by_cases h : ∃ j, j < i ∧ p (rd l j) = true
      · obtain ⟨j, hj, hpj⟩ := h
        exact ih j hj (by omega) hpj
      · have hn : ∀ j, j < i → p (rd l j) = false := fun j hj => by
          cases hb : p (rd l j)
          · rfl
          · exact absurd ⟨j, hj, hb⟩ h
        exact ⟨i, hi, idxP_at p l i hi hn hp, hp, hn⟩
/-- Between two lifts: which one is the first above. -/
theorem up_spec {k : Nat} {s : List Int} {x : Int} (hk1 : 1 ≤ k) (hs : s.length = k) (hx : x ∉ s) (hlo : ¬ x < rd s 0) (hhi : ¬ rd s ((k : Int) - 1) < x) :
    ∃ u : Nat, upI s x = u ∧ 1 ≤ u ∧ u < k ∧ x < rd s u ∧ rd s ((u : Int) - 1) < x := by
  have hne : ∀ i : Nat, i < k → rd s i ≠ x := fun i hi e => hx (e ▸ rd_mem (by omega))
  have h1 := hne (k - 1) (by omega)
  rw [show ((k - 1 : Nat) : Int) = (k : Int) - 1 from by omega] at h1
  obtain ⟨u, hu, he, hp, hn⟩ := idxP_spec (fun n => decide (x < n)) s ⟨k - 1, by omega, by rw [show ((k - 1 : Nat) : Int) = (k : Int) - 1 from by omega]; exact decide_eq_true (by omega)⟩
  have hp' : x < rd s u := of_decide_eq_true hp
  have hu1 : 1 ≤ u := by
    rcases Nat.eq_zero_or_pos u with rfl | h
    · exact absurd hp' hlo
    · exact h
  refine ⟨u, he, hu1, by omega, hp', ?_⟩
  have h2 := of_decide_eq_false (hn (u - 1) (by omega))
  have h3 := hne (u - 1) (by omega)
  rw [show ((u - 1 : Nat) : Int) = (u : Int) - 1 from by omega] at h2 h3
  omega
theorem careful_calls (k : Nat) (s0 : List Int) (cv : Value) (s : List Int) (x : Int) (w : World) (hk1 : 1 ≤ k) (hk3 : k ≤ 3) (hs : s.length = k) (hfl : fl s) (hx0 : 0 ≤ x ∧ x ≤ 30) :
    Calls Try.prog 56 #[.agg (hl k s0 cv), .agg (sp s), .int .i64 x] w fun e w' => e = .returned (.agg (sp (carefulF s x))) ∧ Below w.heap.size w w' := by
  by_cases hx : x ∈ s
  · exact careful_has k s0 cv s x w hk1 hk3 hs hx
  by_cases hlo : x < rd s 0
  · exact careful_low k s0 cv s x w hk1 hk3 hs hx hlo
  by_cases hhi : rd s ((k : Int) - 1) < x
  · exact careful_high k s0 cv s x w hk1 hk3 hs hx hlo hhi
  obtain ⟨u, hu, hu1, huk, _⟩ := up_spec hk1 hs hx hlo hhi
  by_cases hA : rd s u - x ≤ x - rd s ((u : Int) - 1)
  · exact careful_midA k s0 cv s x w hk1 hk3 hs hfl hx0 hx hlo hhi u hu hu1 huk hA
  · exact careful_midB k s0 cv s x w hk1 hk3 hs hfl hx0 hx hlo hhi u hu hu1 huk hA
end Go.Proofs.Ythadaajgjloogaa.L

namespace Go.Proofs.Ythadaajgjloogaa.L
open Go.RowKit Go.Proofs.YthadaajgjloogaaW.PrintWords Go.Proofs.YthadaajgjloogaaW.PrintLast Go.Proofs.YthadaajgjloogaaW.PrintMore
attribute [local go_sem] max2_int min2_int max_two min_two max_three min_three max_four min_four

/-! ### nearest (65) -/
def nearI (s : List Int) (x : Int) : Nat → Nat
  | 0 => 0
  | j + 1 => if ab (rd s j) x < ab (rd s (nearI s x j)) x then j else nearI s x j
theorem nearI_lt (s : List Int) (x : Int) : ∀ j, nearI s x j < j ∨ nearI s x j = 0
  | 0 => .inr rfl
  | j + 1 => by
    unfold nearI
    split
    · exact .inl (by omega)
    · rcases nearI_lt s x j with h | h
      · exact .inl (by omega)
      · exact .inr h
def nearF (s : List Int) (x : Int) : List Int := srt (s.set (nearI s x s.length) x)

theorem spv (s : List Int) : Value.agg (sp s) = .agg #[.int .i64 (rd s 0), .int .i64 (rd s 1), .int .i64 (rd s 2)] := rfl
structure Nw (w W : World) (k : Nat) (s0 : List Int) (cv : Value) (s : List Int) : Prop where
  h3 : W.heap[w.heap.size]? = some (.cells (hl k s0 cv) 62 (0, 0))
  h4 : W.heap[w.heap.size + 1]? = some (.cells (sp s) 60 (0, 0))
  h6 : W.heap[w.heap.size + 1 + 1]? = some (.cells (sp []) 60 (0, 0))
  hb : Below w.heap.size w W
theorem Nw.below {w W W2 : World} {k : Nat} {s0 : List Int} {cv : Value} {s : List Int} (h : Nw w W k s0 cv s) (hb : Below W.heap.size W W2) : Nw w W2 k s0 cv s :=
  ⟨(hb.block _ (blk_lt h.h3)).trans h.h3, (hb.block _ (blk_lt h.h4)).trans h.h4, (hb.block _ (blk_lt h.h6)).trans h.h6, below_then h.hb h.hb.size hb⟩
theorem Nw.first (w : World) (k : Nat) (s0 : List Int) (cv : Value) (s : List Int) :
    Nw w (((w.alloc (.cells (hl k s0 cv) 62)).alloc (.cells (sp s) 60)).alloc (.cells (sp []) 60)) k s0 cv s :=
  ⟨alo (alo (aln _ _) _) _, alo (aln' _ _ (by simp)) _, aln' _ _ (by simp), (((Below.refl _ _).alloc (Nat.le_refl _) _).alloc (by simp) _).alloc (by simp; omega) _⟩

set_option maxHeartbeats 2000000 in
theorem nearest_calls (k : Nat) (s0 : List Int) (cv : Value) (s : List Int) (x : Int) (w : World) (hk1 : 1 ≤ k) (hk3 : k ≤ 3) (hs : s.length = k) (hfl : fl s) (hx0 : 0 ≤ x ∧ x ≤ 30) :
    Calls Try.prog 65 #[.agg (hl k s0 cv), .agg (sp s), .int .i64 x] w fun e w' => e = .returned (.agg (sp (nearF s x))) ∧ Below w.heap.size w w' := by
  have HF : Aside0 (nearF s x = srt (s.set (nearI s x k) x)) := ⟨by simp [nearF, hs]⟩
  have HS := Aside0.mk hs
  have HL := Aside0.mk hfl
  obtain ⟨x0, x1⟩ := hx0
  clear hs hfl
  go_enter Try.func65, Try.ntmps65
  go_upto_region 1 with (fail)
  refine wpc_world (fun W => Aside0 (Nw w W k s0 cv s)) ⟨Nw.first w k s0 cv s⟩ ?_
  rintro W HW
  obtain ⟨⟨c0, c1, c2, c3, c4⟩, _⟩ := hl_read HW.out.h3
  go_wp2
  go_loopw [7, 8, 11] (fun v7 v8 v11 wr => ∃ j : Nat, j ≤ k ∧ v11 = .int .i64 j ∧ v7 = .int .i64 (nearI s x j) ∧ Aside0 (Nw w wr k s0 cv s)) (fun _ _ v11 _ => k - (intOf v11).toNat)
  case atStart => exact ⟨0, Nat.zero_le _, rfl, rfl, HW⟩
  case round =>
    clear HW c0 c1 c2 c3 c4
    obtain ⟨j, hj, rfl, rfl, HN⟩ := hrel
    have hb : nearI s x j < 3 := by rcases nearI_lt s x j with h | h <;> omega
    by_cases hlt : j < k
    · have hc := sp_cell HN.out.h4 j (by omega)
      have hd := sp_cell HN.out.h4 (nearI s x j) hb
      obtain ⟨y0, y1⟩ := HL.out j (by omega)
      obtain ⟨z0, z1⟩ := HL.out (nearI s x j) hb
      have hj3 : (j : Int) < 3 := by omega
      have hb3 : (nearI s x j : Int) < 3 := by omega
      have HE : Aside0 (nearI s x (j + 1) = if ab (rd s j) x < ab (rd s (nearI s x j)) x then j else nearI s x j) := ⟨rfl⟩
      by_cases ht : ab (rd s j) x < ab (rd s (nearI s x j)) x
      · have ht' := decide_eq_true ht
        have HE' : Aside0 (nearI s x (j + 1) = j) := ⟨by rw [HE.out, if_pos ht]⟩
        clear ht
        go_upto_region 5 with (fail)
        go_quiet ((go_at_call 84; exact Calls.quiet_of_same ((away_calls _ _ _ (by omega) (by omega)).mono fun e w' h => ⟨h.1, h.2.symm⟩)))
        go_wp2
        go_roundw
        case rel => exact ⟨j + 1, by omega, by go_num, by rw [HE'.out], ⟨HN.out.below (pw_below_drewN (Below.refl _ _) _)⟩⟩
        case measure => simp [intOf]; omega
      · have ht' := decide_eq_false ht
        have HE' : Aside0 (nearI s x (j + 1) = nearI s x j) := ⟨by rw [HE.out, if_neg ht]⟩
        clear ht
        go_upto_region 5 with (fail)
        go_quiet ((go_at_call 84; exact Calls.quiet_of_same ((away_calls _ _ _ (by omega) (by omega)).mono fun e w' h => ⟨h.1, h.2.symm⟩)))
        go_wp2
        go_roundw
        case rel => exact ⟨j + 1, by omega, by go_num, by rw [HE'.out], ⟨HN.out.below (pw_below_drewN (Below.refl _ _) _)⟩⟩
        case measure => simp [intOf]; omega
    · obtain rfl : j = k := by omega
      have hb3 : nearI s x j < j := by rcases nearI_lt s x j with h | h <;> omega
      obtain ⟨⟨c0, c1, c2, c3, c4⟩, _⟩ := hl_read HN.out.h3
      obtain ⟨r0, r1, r2, _, _, _⟩ := sp_read HN.out.h4
      go_wp2_with (go_at_call 83; refine (moved_calls j s0 cv s (nearI s x j) x _ hk3 HS.out hb3).mono ?_; rintro e W3 ⟨rfl, hb⟩; rw [spv (srt _)]; have HN3 := Aside0.mk (HN.out.below hb); clear hb; obtain ⟨t0, t1, t2, f0, f1, f2⟩ := sp_read HN3.out.h6)
      refine bodyPost_ret (results_single rfl (.cell (w.heap.size + 1 + 1) 60 (sp _) (0, 0) _ rfl (sp_store3 _ HN3.out.h6) Try.underlying60 rfl size60 .nil)) rfl ⟨by rw [HF.out] <;> rfl, ?_⟩
      exact ((HN3.out.hb.setCell (show w.heap.size ≤ w.heap.size + 1 + 1 by omega) _).setCell (show w.heap.size ≤ w.heap.size + 1 + 1 by omega) _).setCell (show w.heap.size ≤ w.heap.size + 1 + 1 by omega) _
end Go.Proofs.Ythadaajgjloogaa.L

