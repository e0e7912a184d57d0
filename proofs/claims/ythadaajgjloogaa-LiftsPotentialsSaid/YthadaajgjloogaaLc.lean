import Derived.Test.YthadaajgjloogaaLb
import Derived.Test.YthadaajgjloogaaShelf
import Derived.Sort.OwnSortedInts
namespace Go.Proofs.Ythadaajgjloogaa.L
open Go.RowKit Go.Proofs.YthadaajgjloogaaW.PrintWords Go.Proofs.YthadaajgjloogaaW.PrintLast Go.Proofs.YthadaajgjloogaaW.PrintMore
attribute [local go_sem] max2_int min2_int max_two min_two max_three min_three max_four min_four

/-- Positions of k lifts, as far as the machine is concerned: k floors. -/
structure Pos (k : Nat) (s : List Int) : Prop where
  len : s.length = k
  all : ∀ x ∈ s, 0 ≤ x ∧ x ≤ 30
theorem rd_mem {s : List Int} {i : Nat} (h : i < s.length) : rd s i ∈ s := by
  have : rd s i = s[i] := by simp [rd, List.getD, h]
  rw [this]; exact List.getElem_mem h
theorem rd_out {s : List Int} {i : Nat} (h : s.length ≤ i) : rd s i = 0 := by simp [rd, List.getD, h]
theorem Pos.fl {k : Nat} {s : List Int} (h : Pos k s) : fl s := fun i _ => by
  rcases Nat.lt_or_ge i s.length with hi | hi
  · exact h.all _ (rd_mem hi)
  · rw [rd_out hi]; omega

/-- A list in ascending order. -/
def srt (s : List Int) : List Int := s.mergeSort fun x y => decide (x ≤ y)
theorem srt_len (s : List Int) : (srt s).length = s.length := by simp [srt]
theorem srt_mem {s : List Int} {x : Int} : x ∈ srt s ↔ x ∈ s := by simp [srt]
theorem Pos.srt {k : Nat} {s : List Int} (h : Pos k s) : Pos k (srt s) := ⟨by rw [srt_len]; exact h.len, fun x hx => h.all x (srt_mem.1 hx)⟩
theorem Pos.set {k : Nat} {s : List Int} (h : Pos k s) (i : Nat) {x : Int} (hx : 0 ≤ x ∧ x ≤ 30) : Pos k (s.set i x) :=
  ⟨by simpa using h.len, fun y hy => by
    rcases List.mem_or_eq_of_mem_set hy with h1 | h1
    · exact h.all y h1
    · rw [h1]; exact hx⟩
theorem sp_set (s : List Int) (i : Nat) (x : Int) (h : i < s.length) (h3 : s.length ≤ 3) : (sp s).setIfInBounds i (.int .i64 x) = sp (s.set i x) := by
  match s, i, h, h3 with
  | [a], 0, _, _ => rfl
  | [a, b], 0, _, _ => rfl
  | [a, b], 1, _, _ => rfl
  | [a, b, c], 0, _, _ => rfl
  | [a, b, c], 1, _, _ => rfl
  | [a, b, c], 2, _, _ => rfl
theorem sp_put (s t : List Int) (h : t.length = s.length) (h3 : s.length ≤ 3) : Sort.putCells (Value.int .i64) 0 t.toArray (sp s) = sp t := by
  match s, t, h, h3 with
  | [], [], _, _ => rfl
  | [a], [x], _, _ => rfl
  | [a, b], [x, y], _, _ => rfl
  | [a, b, c], [x, y, z], _, _ => rfl
theorem sort_sp (g k : Nat) (s : List Int) (w : World) (h : w.heap[g]? = some (.cells (sp s) 60 (0, 0))) (hk : s.length = k) (h3 : k ≤ 3) :
    Calls Try.prog 105 #[.slice (some ⟨g, 0, none⟩) k 3] w fun e w' => e = .returned (.tuple #[]) ∧ w'.heap[g]? = some (.cells (sp (srt s)) 60 (0, 0)) ∧ w.grownBy w' (some g) := by
  subst hk
  refine (Try.slices_Sort_int g 0 3 s w ?_ (blk_lt h) (by omega)).mono ?_
  · intro j hj
    have hj' : j < s.length := by simpa using hj
    refine ⟨?_, blk_frozen h _⟩
    rw [Nat.zero_add, sp_cell h j (by omega)]
    congr 2
    simp [rd, List.getD, hj']
  · rintro e w' ⟨rfl, n, os, rfl⟩
    refine ⟨rfl, ?_, grownBy_sortedI _⟩
    rw [Sort.heap_grow_old _ _ (by simpa [Sort.putRow, Sort.mapBlock, Sort.ahead] using blk_lt h)]
    show (Sort.mapBlock (Sort.ahead w n) g _).heap[g]? = _
    simp only [Sort.mapBlock, Sort.ahead, Array.getElem?_modify, if_pos, h, Option.map_some, Sort.onCells]
    exact congrArg (fun c => some (Obj.cells c 60 (0, 0))) (sp_put s (srt s) (srt_len s) h3)

set_option maxHeartbeats 1000000 in
theorem has_calls (k : Nat) (s0 : List Int) (cv : Value) (s : List Int) (x : Int) (w : World) (hk3 : k ≤ 3) (hs : s.length = k) :
    Calls Try.prog 57 #[.agg (hl k s0 cv), .agg (sp s), .int .i64 x] w fun e w' => e = .returned (.bool (decide (x ∈ s))) ∧ Below w.heap.size w w' := by
  have HB : Aside0 (((w.alloc (.cells (hl k s0 cv) 62)).alloc (.cells (sp s) 60)).heap[w.heap.size + 1]? = some (.cells (sp s) 60 (0, 0))) := ⟨aln' _ _ (by simp)⟩
  have HS := Aside0.mk hs
  have hk' : (k : Int) ≤ 3 := by omega
  clear hs
  go_enter Try.func57, Try.ntmps57
  go_wp2_with (go_at_call 89; refine (Try.slices_Contains_int (w.heap.size + 1) 0 k 3 s x _ (by rw [HS.out]; exact Nat.le_refl _) (by omega) (fun j hj => by rw [Nat.zero_add, sp_cell HB.out j (by have := HS.out; omega)]; simp [rd])).mono ?_; rintro e w' ⟨rfl, rfl⟩)
  go_ret
  exact ⟨congrArg (fun l : List Int => Ending.returned (Value.bool (decide (x ∈ l)))) (List.take_of_length_le (by rw [HS.out]; exact Nat.le_refl _)), ((Below.refl _ _).alloc (Nat.le_refl _) _).alloc (by simp) _⟩

theorem sp_read {w : World} {g : Nat} {s : List Int} (h : w.heap[g]? = some (.cells (sp s) 60 (0, 0))) : w.cell? ⟨g, 0, none⟩ = some (.int .i64 (rd s 0)) ∧ w.cell? ⟨g, 1, none⟩ = some (.int .i64 (rd s 1)) ∧ w.cell? ⟨g, 2, none⟩ = some (.int .i64 (rd s 2)) ∧
    w.frozen? ⟨g, 0, none⟩ = false ∧ w.frozen? ⟨g, 1, none⟩ = false ∧ w.frozen? ⟨g, 2, none⟩ = false := ⟨blk_cell h 0, blk_cell h 1, blk_cell h 2, blk_frozen h _, blk_frozen h _, blk_frozen h _⟩
theorem sp_store3 {w : World} {g : Nat} {s : List Int} (t : List Int) (h : w.heap[g]? = some (.cells (sp s) 60 (0, 0))) :
    (((w.setCell ⟨g, 0, none⟩ (.int .i64 (rd t 0))).setCell ⟨g, 1, none⟩ (.int .i64 (rd t 1))).setCell ⟨g, 2, none⟩ (.int .i64 (rd t 2))).heap[g]? = some (.cells (sp t) 60 (0, 0)) := by
  rw [blk_set (blk_set (blk_set h 0 _) 1 _) 2 _]; rfl
theorem size60 : (Try.prog.info? 60).map (·.size) = some 3 := by kernel_rfl
theorem size62 : (Try.prog.info? 62).map (·.size) = some 5 := by kernel_rfl
/-- The world under a name, with what is known of it. -/
theorem wpc_world {P : Program} {c : Code} {Q : Exit → Act → World → Prop} {a : Act} {w1 : World} (F : World → Prop) (hF : F w1) (h : ∀ W, F W → c.wp P Q a W) : c.wp P Q a w1 := h w1 hF
theorem wpl_world {P : Program} {ops l : _} {Q : Exit → Act → World → Prop} {a : Act} {w1 : World} (F : World → Prop) (hF : F w1) (h : ∀ W, F W → wpList P ops Q l a W) : wpList P ops Q l a w1 := h w1 hF

set_option maxHeartbeats 1000000 in
theorem moved_calls (k : Nat) (s0 : List Int) (cv : Value) (s : List Int) (i : Nat) (x : Int) (w : World) (hk3 : k ≤ 3) (hs : s.length = k) (hi : i < k) :
    Calls Try.prog 83 #[.agg (hl k s0 cv), .agg (sp s), .int .i64 i, .int .i64 x] w fun e w' => e = .returned (.agg (sp (srt (s.set i x)))) ∧ Below w.heap.size w w' := by
  have HS := Aside0.mk hs
  have hk' : (k : Int) ≤ 3 := by omega
  have hi' : (i : Int) < 3 := by omega
  clear hs
  go_enter Try.func83, Try.ntmps83
  go_upto_region 1 with (fail)
  refine wpc_world (fun W => Aside0 (W.heap[w.heap.size]? = some (.cells (hl k s0 cv) 62 (0, 0))) ∧ Aside0 (W.heap[w.heap.size + 1]? = some (.cells (sp s) 60 (0, 0))) ∧
    Aside0 (W.heap[w.heap.size + 1 + 1]? = some (.cells (sp []) 60 (0, 0))) ∧ Aside0 (Below w.heap.size w W)) ⟨⟨alo (alo (aln _ _) _) _⟩, ⟨alo (aln' _ _ (by simp)) _⟩, ⟨aln' _ _ (by simp)⟩, ⟨(((Below.refl _ _).alloc (Nat.le_refl _) _).alloc (by simp) _).alloc (by simp; omega) _⟩⟩ ?_
  rintro W ⟨H0, H1, H2, HB⟩
  have hc0 : W.cell? ⟨w.heap.size, 0, none⟩ = some (.int .i64 k) := blk_cell H0.out 0
  have hci := sp_cell H1.out i (by omega)
  have hfi := blk_frozen H1.out i
  go_upto_region 2 with (fail)
  refine wpc_world (fun W => Aside0 (W.heap[w.heap.size]? = some (.cells (hl k s0 cv) 62 (0, 0))) ∧ Aside0 (W.heap[w.heap.size + 1]? = some (.cells (sp (s.set i x)) 60 (0, 0))) ∧
    Aside0 (W.heap[w.heap.size + 1 + 1]? = some (.cells (sp []) 60 (0, 0))) ∧ Aside0 (Below w.heap.size w W))
    ⟨⟨blk_far H0.out (by simp) _⟩, ⟨by rw [blk_set H1.out, sp_set s i x (by have := HS.out; omega) (by have := HS.out; omega)]⟩, ⟨blk_far H2.out (by simp) _⟩, ⟨HB.out.setCell (by simp) _⟩⟩ ?_
  clear hc0 hci hfi H0 H1 H2 HB W
  rintro W ⟨H0, H1, H2, HB⟩
  have hc0 : W.cell? ⟨w.heap.size, 0, none⟩ = some (.int .i64 k) := blk_cell H0.out 0
  have HL : Aside0 ((s.set i x).length = k) := ⟨by simp [HS.out]⟩
  go_wp2_with (go_at_call 105; refine (sort_sp (w.heap.size + 1) k (s.set i x) _ H1.out HL.out hk3).mono ?_; rintro e W2 ⟨rfl, hq1, hq2⟩; have Q1 := Aside0.mk hq1; have Q2 := Aside0.mk hq2; have R2 := Aside0.mk (blk_grown H2.out hq2 (by simp)); clear hq1 hq2 hc0; obtain ⟨r0, r1, r2, _, _, _⟩ := sp_read Q1.out; obtain ⟨t0, t1, t2, f0, f1, f2⟩ := sp_read R2.out)
  refine bodyPost_ret (results_single rfl (.cell (w.heap.size + 1 + 1) 60 (sp (srt (s.set i x))) (0, 0) _ rfl (sp_store3 _ R2.out) Try.underlying60 rfl size60 .nil)) rfl ⟨rfl, ?_⟩
  exact (((HB.out.grown Q2.out HB.out.size (fun q e => by cases e; omega)).setCell (by simp; omega) _).setCell (by simp; omega) _).setCell (by simp; omega) _
end Go.Proofs.Ythadaajgjloogaa.L
