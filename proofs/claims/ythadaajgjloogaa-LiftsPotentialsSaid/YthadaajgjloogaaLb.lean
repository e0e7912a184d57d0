import Derived.Test.YthadaajgjloogaaLa
namespace Go.Proofs.Ythadaajgjloogaa.L
open Go.RowKit Go.Proofs.YthadaajgjloogaaW.PrintWords Go.Proofs.YthadaajgjloogaaW.PrintLast Go.Proofs.YthadaajgjloogaaW.PrintMore
attribute [local go_sem] max2_int min2_int max_two min_two max_three min_three max_four min_four
theorem info3 : (Try.prog.info? 3).map (fun i => (i.zero, i.size, i.bytes)) = some (some (.int .i64 0), 1, 8) := by kernel_rfl

/-! ### three floors in an array; a hall -/
def sp (s : List Int) : Array Value := #[.int .i64 (rd s 0), .int .i64 (rd s 1), .int .i64 (rd s 2)]
theorem sp_at (s : List Int) (i : Nat) (h : i < 3) : (sp s)[i]? = some (.int .i64 (rd s i)) := by
  match i, h with
  | 0, _ => rfl
  | 1, _ => rfl
  | 2, _ => rfl
theorem sp_cell {w : World} {g : Nat} {s : List Int} (h : w.heap[g]? = some (.cells (sp s) 60 (0, 0))) (i : Nat) (hi : i < 3) : w.cell? ⟨g, i, none⟩ = some (.int .i64 (rd s i)) := (blk_cell h i).trans (sp_at s i hi)
/-- hall: the number of lifts, where they start, the calls. -/
abbrev hl (k : Int) (s : List Int) (c : Value) : Array Value := #[.int .i64 k, .int .i64 (rd s 0), .int .i64 (rd s 1), .int .i64 (rd s 2), c]

def fl (s : List Int) : Prop := ∀ i : Nat, i < 3 → 0 ≤ rd s i ∧ rd s i ≤ 30
/-- The terms of the distance of two positions. -/
def dl (a b : List Int) (j : Nat) : List Int := (List.range j).map fun i : Nat => ab (rd a i) (rd b i)
theorem dl_succ (a b : List Int) (j : Nat) : dl a b (j + 1) = dl a b j ++ [ab (rd a j) (rd b j)] := by simp [dl, List.range_succ]
theorem dl_len (a b : List Int) (j : Nat) : (dl a b j).length = j := by simp [dl]

theorem ab_range {x y : Int} (hx : 0 ≤ x ∧ x ≤ 30) (hy : 0 ≤ y ∧ y ≤ 30) : 0 ≤ ab x y ∧ ab x y ≤ 30 := by unfold ab; split <;> omega
theorem dl_range {a b : List Int} (ha : fl a) (hb : fl b) (j : Nat) (hj : j ≤ 3) : ∀ x ∈ dl a b j, -1000000000 ≤ x ∧ x ≤ 1000000000 := by
  intro x hx
  obtain ⟨i, hi, rfl⟩ := List.mem_map.1 hx
  have := ab_range (ha i (by have := List.mem_range.1 hi; omega)) (hb i (by have := List.mem_range.1 hi; omega))
  omega
theorem aln (w : World) (o : Obj) : (w.alloc o).heap[w.heap.size]? = some o := heap_alloc_new w o
theorem aln' (w : World) (o : Obj) {g : Nat} (h : g = w.heap.size) : (w.alloc o).heap[g]? = some o := by rw [h]; exact aln w o
theorem alo {w : World} {g : Nat} {x : Obj} (h : w.heap[g]? = some x) (o : Obj) : (w.alloc o).heap[g]? = some x := (Below.heap_alloc w o g (blk_lt h)).trans h
set_option maxHeartbeats 1000000 in
set_option maxRecDepth 100000 in
theorem distance_calls (k : Nat) (s : List Int) (cv : Value) (a b : List Int) (w : World) (hk : k ≤ 3) (ha : fl a) (hb : fl b) :
    Calls Try.prog 54 #[.agg (hl k s cv), .agg (sp a), .agg (sp b)] w fun e w' => e = .returned (.int .i64 (sumI (dl a b k))) ∧ Below w.heap.size w w' := by
  have HA := Aside0.mk ha
  have HB := Aside0.mk hb
  clear ha hb
  go_enter Try.func54, Try.ntmps54
  go_wp2
  go_loopw [7, 8, 11] (fun v7 v8 v11 wr => ∃ j : Nat, j ≤ k ∧ v11 = .int .i64 j ∧ Aside0 (Kd.R (Kd.int .i64) 3 wr w.heap.size (fun x => w.heap.size + 3 ≤ x) v7 (dl a b j)) ∧
      Aside0 (wr.heap[w.heap.size + 1]? = some (.cells (sp a) 60 (0, 0))) ∧ Aside0 (wr.heap[w.heap.size + 1 + 1]? = some (.cells (sp b) 60 (0, 0))) ∧ Aside0 (Below w.heap.size w wr)) (fun _ _ v11 _ => k - (intOf v11).toNat)
  case atStart =>
    refine ⟨0, Nat.zero_le _, rfl, ⟨Kd.R_nil _ _ _ _ _⟩, ⟨?_⟩, ⟨?_⟩, ⟨?_⟩⟩
    · exact alo (aln' _ _ (by simp)) _
    · exact aln' _ _ (by simp)
    · exact (((Below.refl _ _).alloc (Nat.le_refl _) _).alloc (by simp) _).alloc (by simp; omega) _
  case round =>
    obtain ⟨j, hj, rfl, HR, HX, HY, HW⟩ := hrel
    by_cases hlt : j < k
    · have hx := sp_cell HX.out j (by omega)
      have hy := sp_cell HY.out j (by omega)
      obtain ⟨x1, x2⟩ := HA.out j (by omega)
      obtain ⟨y1, y2⟩ := HB.out j (by omega)
      have hs := HW.out.size
      have hs3 : w.heap.size + 3 ≤ wr.heap.size := by have := blk_lt HY.out; omega
      have hj3 : (j : Int) < 3 := by omega
      go_wp2
      go_region_held3 (fun w' => w'.cell? ⟨w.heap.size + 1, j, none⟩ = some (.int .i64 (rd a j)) ∧ w'.cell? ⟨w.heap.size + 1 + 1, j, none⟩ = some (.int .i64 (rd b j))) (go_keep)
        (first
          | (go_at_call 84; refine (away_calls _ _ _ (by omega) (by omega)).mono ?_; rintro e w' ⟨rfl, rfl⟩)
          | (refine Kd.R_append_step (Kd.int .i64) (w0 := w) (W := wr.drew) w.heap.size (by rfl) (.tmp 14) (.tmp 22) 22 3 (.int .i64 0) 8 (by rfl) Try.underlying22 info3 (by rfl) (by decide) (by omega) u7 (dl a b j) (ab (rd a j) (rd b j)) [.int .i64 (ab (rd a j) (rd b j))] (fun x => w.heap.size + 3 ≤ x) (fun _ => False) (by rfl) (by rfl) (by rfl) (fun _ h => h.elim) (fun q hq => Nat.le_trans hs3 hq) (Kd.R_drew HR.out) (below_drew1 HW.out) hs (by rw [dl_len]; omega) ?_; intro v1 w1 hR1 hB1 hg1 hat1; have HX1 := Aside0.mk (blk_grown (w := wr.drew) HX.out hg1 (fun e => by have := HR.out.1 _ e.symm; omega)); have HY1 := Aside0.mk (blk_grown (w := wr.drew) HY.out hg1 (fun e => by have := HR.out.1 _ e.symm; omega)); have hx1 := sp_cell HX1.out j (by omega); have hy1 := sp_cell HY1.out j (by omega); have HR1 := Aside0.mk hR1; have HB1 := Aside0.mk hB1; clear hR1 hB1 hg1 hat1))
      clear hx hy hx1 hy1
      go_wp2
      go_roundw
      case rel => exact ⟨j + 1, by omega, by go_num, ⟨by rw [dl_succ]; exact HR1.out⟩, HX1, HY1, HB1⟩
      case measure => simp [intOf]; omega
    · obtain rfl : j = k := by omega
      obtain ⟨A, c, rfl, hlc, hC⟩ := Kd.R_reads HR.out
      have HC := Aside0.mk hC
      have HLC := Aside0.mk hlc
      have HN := Aside0.mk (dl_len a b j)
      clear hC hlc
      have HV : Aside0 (∀ x ∈ dl a b j, -1000000000 ≤ x ∧ x ≤ 1000000000) := ⟨dl_range HA.out HB.out j (by omega)⟩
      go_wp2_with (go_at_call 58; refine (total_calls A c _ _ HC.out HLC.out (by rw [HN.out]; omega) HV.out).mono ?_; rintro e w' ⟨rfl, rfl⟩)
      go_ret
      exact ⟨rfl, HW.out⟩
end Go.Proofs.Ythadaajgjloogaa.L
