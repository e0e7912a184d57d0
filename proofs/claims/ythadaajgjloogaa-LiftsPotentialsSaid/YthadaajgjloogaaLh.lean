import Derived.Test.YthadaajgjloogaaLg
namespace Go.Proofs.Ythadaajgjloogaa.L
open Go.RowKit Go.Proofs.YthadaajgjloogaaW.PrintWords Go.Proofs.YthadaajgjloogaaW.PrintLast Go.Proofs.YthadaajgjloogaaW.PrintMore
attribute [local go_sem] max2_int min2_int max_two min_two max_three min_three max_four min_four

/-! ### nearest (65) -/
def nearI (s : List Int) (x : Int) : Nat → Nat
  | 0 => 0
  | j + 1 => if ab (rd s j) x < ab (rd s (nearI s x j)) x then j else nearI s x j
theorem nearI_lt (s : List Int) (x : Int) : ∀ j, nearI s x j < j ∨ nearI s x j = 0
  | 0 => .inr rfl
  | j + 1 => by
    unfold nearI
    split
    · exact .inl (by omega)
    · rcases nearI_lt s x j with h | h
      · exact .inl (by omega)
      · exact .inr h
def nearF (s : List Int) (x : Int) : List Int := srt (s.set (nearI s x s.length) x)

theorem spv (s : List Int) : Value.agg (sp s) = .agg #[.int .i64 (rd s 0), .int .i64 (rd s 1), .int .i64 (rd s 2)] := rfl
structure Nw (w W : World) (k : Nat) (s0 : List Int) (cv : Value) (s : List Int) : Prop where
  h3 : W.heap[w.heap.size]? = some (.cells (hl k s0 cv) 62 (0, 0))
  h4 : W.heap[w.heap.size + 1]? = some (.cells (sp s) 60 (0, 0))
  h6 : W.heap[w.heap.size + 1 + 1]? = some (.cells (sp []) 60 (0, 0))
  hb : Below w.heap.size w W
theorem Nw.below {w W W2 : World} {k : Nat} {s0 : List Int} {cv : Value} {s : List Int} (h : Nw w W k s0 cv s) (hb : Below W.heap.size W W2) : Nw w W2 k s0 cv s :=
  ⟨(hb.block _ (blk_lt h.h3)).trans h.h3, (hb.block _ (blk_lt h.h4)).trans h.h4, (hb.block _ (blk_lt h.h6)).trans h.h6, below_then h.hb h.hb.size hb⟩
theorem Nw.first (w : World) (k : Nat) (s0 : List Int) (cv : Value) (s : List Int) :
    Nw w (((w.alloc (.cells (hl k s0 cv) 62)).alloc (.cells (sp s) 60)).alloc (.cells (sp []) 60)) k s0 cv s :=
  ⟨alo (alo (aln _ _) _) _, alo (aln' _ _ (by simp)) _, aln' _ _ (by simp), (((Below.refl _ _).alloc (Nat.le_refl _) _).alloc (by simp) _).alloc (by simp; omega) _⟩

set_option maxHeartbeats 2000000 in
theorem nearest_calls (k : Nat) (s0 : List Int) (cv : Value) (s : List Int) (x : Int) (w : World) (hk1 : 1 ≤ k) (hk3 : k ≤ 3) (hs : s.length = k) (hfl : fl s) (hx0 : 0 ≤ x ∧ x ≤ 30) :
    Calls Try.prog 65 #[.agg (hl k s0 cv), .agg (sp s), .int .i64 x] w fun e w' => e = .returned (.agg (sp (nearF s x))) ∧ Below w.heap.size w w' := by
  have HF : Aside0 (nearF s x = srt (s.set (nearI s x k) x)) := ⟨by simp [nearF, hs]⟩
  have HS := Aside0.mk hs
  have HL := Aside0.mk hfl
  obtain ⟨x0, x1⟩ := hx0
  clear hs hfl
  go_enter Try.func65, Try.ntmps65
  go_upto_region 1 with (fail)
  refine wpc_world (fun W => Aside0 (Nw w W k s0 cv s)) ⟨Nw.first w k s0 cv s⟩ ?_
  rintro W HW
  obtain ⟨⟨c0, c1, c2, c3, c4⟩, _⟩ := hl_read HW.out.h3
  go_wp2
  go_loopw [7, 8, 11] (fun v7 v8 v11 wr => ∃ j : Nat, j ≤ k ∧ v11 = .int .i64 j ∧ v7 = .int .i64 (nearI s x j) ∧ Aside0 (Nw w wr k s0 cv s)) (fun _ _ v11 _ => k - (intOf v11).toNat)
  case atStart => exact ⟨0, Nat.zero_le _, rfl, rfl, HW⟩
  case round =>
    clear HW c0 c1 c2 c3 c4
    obtain ⟨j, hj, rfl, rfl, HN⟩ := hrel
    have hb : nearI s x j < 3 := by rcases nearI_lt s x j with h | h <;> omega
    by_cases hlt : j < k
    · have hc := sp_cell HN.out.h4 j (by omega)
      have hd := sp_cell HN.out.h4 (nearI s x j) hb
      obtain ⟨y0, y1⟩ := HL.out j (by omega)
      obtain ⟨z0, z1⟩ := HL.out (nearI s x j) hb
      have hj3 : (j : Int) < 3 := by omega
      have hb3 : (nearI s x j : Int) < 3 := by omega
      have HE : Aside0 (nearI s x (j + 1) = if ab (rd s j) x < ab (rd s (nearI s x j)) x then j else nearI s x j) := ⟨rfl⟩
      by_cases ht : ab (rd s j) x < ab (rd s (nearI s x j)) x
      · have ht' := decide_eq_true ht
        have HE' : Aside0 (nearI s x (j + 1) = j) := ⟨by rw [HE.out, if_pos ht]⟩
        clear ht
        go_upto_region 5 with (fail)
        go_quiet ((go_at_call 84; exact Calls.quiet_of_same ((away_calls _ _ _ (by omega) (by omega)).mono fun e w' h => ⟨h.1, h.2.symm⟩)))
        go_wp2
        go_roundw
        case rel => exact ⟨j + 1, by omega, by go_num, by rw [HE'.out], ⟨HN.out.below (pw_below_drewN (Below.refl _ _) _)⟩⟩
        case measure => simp [intOf]; omega
      · have ht' := decide_eq_false ht
        have HE' : Aside0 (nearI s x (j + 1) = nearI s x j) := ⟨by rw [HE.out, if_neg ht]⟩
        clear ht
        go_upto_region 5 with (fail)
        go_quiet ((go_at_call 84; exact Calls.quiet_of_same ((away_calls _ _ _ (by omega) (by omega)).mono fun e w' h => ⟨h.1, h.2.symm⟩)))
        go_wp2
        go_roundw
        case rel => exact ⟨j + 1, by omega, by go_num, by rw [HE'.out], ⟨HN.out.below (pw_below_drewN (Below.refl _ _) _)⟩⟩
        case measure => simp [intOf]; omega
    · obtain rfl : j = k := by omega
      have hb3 : nearI s x j < j := by rcases nearI_lt s x j with h | h <;> omega
      obtain ⟨⟨c0, c1, c2, c3, c4⟩, _⟩ := hl_read HN.out.h3
      obtain ⟨r0, r1, r2, _, _, _⟩ := sp_read HN.out.h4
      go_wp2_with (go_at_call 83; refine (moved_calls j s0 cv s (nearI s x j) x _ hk3 HS.out hb3).mono ?_; rintro e W3 ⟨rfl, hb⟩; rw [spv (srt _)]; have HN3 := Aside0.mk (HN.out.below hb); clear hb; obtain ⟨t0, t1, t2, f0, f1, f2⟩ := sp_read HN3.out.h6)
      refine bodyPost_ret (results_single rfl (.cell (w.heap.size + 1 + 1) 60 (sp _) (0, 0) _ rfl (sp_store3 _ HN3.out.h6) Try.underlying60 rfl size60 .nil)) rfl ⟨by rw [HF.out] <;> rfl, ?_⟩
      exact ((HN3.out.hb.setCell (show w.heap.size ≤ w.heap.size + 1 + 1 by omega) _).setCell (show w.heap.size ≤ w.heap.size + 1 + 1 by omega) _).setCell (show w.heap.size ≤ w.heap.size + 1 + 1 by omega) _
end Go.Proofs.Ythadaajgjloogaa.L
