/- The walks of the document's own SHA-256: turn, block. -/
import Derived.Test.YtinoebjhcmeppaaToldB
namespace Go.Proofs.Ytinoebjhcmeppaa
open E Sha
set_option maxRecDepth 100000
set_option maxHeartbeats 4000000

theorem f65_turn (x : Int) {n : Nat} (h1 : 1 ≤ n) (h2 : n ≤ 31) (w : World) : Calls Try.prog 65 #[u32 x, u64 (n : Nat)] w (fun e w' => e = .returned (u32 (ror x n)) ∧ w' = w) := by
  refine (calls_W (args := [u32 x, u64 (n : Nat)]) (R := fun v w' => v = u32 (ror x n) ∧ w' = w) Try.func65 rfl Try.ntmps65 rfl ?_).mono (fun e w' ⟨v, he, hv, hw⟩ => ⟨hv ▸ he, hw⟩)
  refine W_seq ?_
  refine W_region rfl ?_
  refine L_val rfl (x_assign (by conv => lhs; whnf)) ?_
  refine L_nil ?_
  refine W_seq ?_
  refine W_region rfl ?_
  refine L_val rfl (x_move (by conv => lhs; whnf)) ?_
  refine L_val rfl (x_move (by conv => lhs; whnf)) ?_
  refine L_val rfl (x_shr (c := sr x n) rfl rfl (by omega) (by simp only [sr, IntKind.bits]; rw [show min ((n : Nat) : Int).toNat 32 = n by omega])) ?_
  refine L_val rfl (x_move (by conv => lhs; whnf)) ?_
  refine L_val rfl (x_move (by conv => lhs; whnf)) ?_
  refine L_val rfl (x_sub rfl rfl (wru64 (c := ((32 - n : Nat) : Int)) (by omega) (by omega) (by omega))) ?_
  refine L_val rfl (x_shl (c := sl x (32 - n)) rfl rfl (by omega) (by simp only [sl, IntKind.bits]; rw [show min ((32 - n : Nat) : Int).toNat 32 = 32 - n by omega])) ?_
  refine L_val rfl (x_or rfl rfl) ?_
  refine L_val rfl (x_assign (by conv => lhs; whnf)) ?_
  refine L_nil ?_
  refine W_ret ?_
  exact res1 rfl rfl ⟨rfl, rfl⟩
theorem f58_block {w : World} {h : List Int} {bb ob cap at0 : Nat} {bs : List Int} (hx : Bt w (.slice (some ⟨bb, ob, none⟩) bs.length cap) bs) (hh : h.length = 8) (hat : at0 + 64 ≤ bs.length) :
    Calls Try.prog 58 #[.agg (L32 h), .slice (some ⟨bb, ob, none⟩) bs.length cap, i64 (at0 : Nat)] w (Rv fun v w' => v = .agg (L32 (compress h ((bs.drop at0).take 64))) ∧ Chg [] w w') := by
  have hlx := hx.lens
  have hmx : maxLen ≤ 9223372036854775807 := by decide
  refine calls_W (args := [.agg (L32 h), .slice (some ⟨bb, ob, none⟩) bs.length cap, i64 (at0 : Nat)]) Try.func58 rfl Try.ntmps58 rfl ?_
  refine W_seq ?_
  refine W_region rfl ?_
  refine L_box rfl (v := .agg (L32 h)) rfl (fun w1 hb1 hc1 hs1 => ?_)
  refine L_alloc zero104 rfl (fun w2 hb2 hc2 hs2 => ?_)
  refine L_nil ?_
  refine W_seq ?_
  refine W_region rfl ?_
  refine L_val rfl (x_build rfl (run_build w2 _ _ (L32 KS) (by kernel_rfl))) ?_
  refine L_alloc zero112 rfl (fun w3 hb3 hc3 hs3 => ?_)
  refine L_storeAll sz112 rfl rfl rfl rfl (L32_one _) hb3 rfl (fun w4 hb4 hc4 => ?_)
  refine L_nil ?_
  refine W_seq ?_
  refine W_region rfl ?_
  refine L_alloc zero112 rfl (fun w5 hb5 hc5 hs5 => ?_)
  refine L_nil ?_
  refine W_seq ?_
  refine W_seq ?_
  refine W_region rfl ?_
  refine L_val rfl (x_assign (by conv => lhs; whnf)) ?_
  refine L_nil ?_
  refine W_block ?_
  have hsz4 := hc4.size
  have hC5 : Chg [] w w5 := ((((hc1.out hc2 (by simp)).out hc3 (by simp)).out hc4 (by simp; omega)).out hc5 (by simp))
  have hH5 : w5.heap[w.heap.size]? = some (.cells (L32 h) 104 (0, 0)) := hc5.at (hc4.at (hc3.at (hc2.at hb1 (by simp)) (by simp)) (by simp; omega)) (by simp)
  have h65 : ∃ c, c.size = 8 ∧ w5.heap[w1.heap.size]? = some (.cells c 104 (0, 0)) := ⟨_, rfl, hc5.at (hc4.at (hc3.at hb2 (by simp)) (by simp; omega)) (by simp)⟩
  have hK5 : w5.heap[w2.heap.size]? = some (.cells (L32 KS) 112 (0, 0)) := hc5.at hb4 (by simp)
  have hord : w.heap.size < w1.heap.size ∧ w1.heap.size < w2.heap.size ∧ w2.heap.size < w4.heap.size ∧ w4.heap.size < w5.heap.size := by omega
  obtain ⟨c6, hc6, h65⟩ := h65
  generalize hqH : w.heap.size = bH at *
  generalize hq6 : w1.heap.size = b6 at *
  generalize hqK : w2.heap.size = bK at *
  generalize hqW : w4.heap.size = bW at *
  clear hb1 hc1 hb2 hc2 hb3 hc3 hb4 hc4 hc5 hs1 hs2 hs3 hsz4
  refine W_loop (fun m f w6 => ∃ i, i ≤ 16 ∧ m = 16 - i ∧ Frm f [(1, .slice (some ⟨bb, ob, none⟩) bs.length cap), (2, i64 (at0 : Nat)), (3, ptr bH 0), (6, ptr b6 0), (7, ptr bK 0), (8, ptr bW 0), (9, i64 (i : Nat))] ∧ w6.heap[bW]? = some (.cells (L32 (sched16 ((bs.drop at0).take 64) i)) 112 (0, 0)) ∧ Chg [bW] w5 w6) 16
    ⟨0, by omega, rfl, ⟨rfl, rfl, rfl, rfl, rfl, rfl, rfl, trivial⟩, by rw [hb5]; rfl, Chg.refl _ _⟩ (fun m f w6 hI => ?_)
  obtain ⟨i, hi, rfl, hF, hW, hC6⟩ := hI
  obtain ⟨g, rfl⟩ := hF.eta
  have hWl := sched16_len ((bs.drop at0).take 64) i
  have hC06 : Chg [] w w6 := hC5.out hC6 (by simp; omega)
  obtain ⟨bb', ob', cap', hv', hlc', hlm', hcell⟩ := (hx.chg0 hC06).some (by omega)
  simp only [Value.slice.injEq, Option.some.injEq, Addr.mk.injEq, and_true] at hv'
  obtain ⟨⟨rfl, rfl⟩, -, rfl⟩ := hv'
  refine W_seq ?_
  refine W_seq ?_
  refine W_region rfl ?_
  refine L_val rfl (x_move (by conv => lhs; whnf)) ?_
  refine L_val rfl (x_lss rfl rfl rfl) ?_
  refine L_nil ?_
  by_cases hcond : i < 16
  · refine W_true (congrArg Value.bool (decide_eq_true (by omega))) ?_
    refine W_skip ?_
    refine W_seq ?_
    refine W_block ?_
    refine W_tail 43 mixed (by kernel_rfl) rfl ?_
    refine L_val rfl (x_move (by conv => lhs; whnf)) ?_
    refine L_val rfl (x_move (by conv => lhs; whnf)) ?_
    refine L_val rfl (x_move (by conv => lhs; whnf)) ?_
    refine L_val rfl (x_move (by conv => lhs; whnf)) ?_
    refine L_val rfl (x_mul rfl rfl (wr64 (c := ((4 * i : Nat) : Int)) (by omega) (by omega) (by omega))) ?_
    refine L_val rfl (x_add rfl rfl (wr64 (c := ((at0 + (4 * i) : Nat) : Int)) (by omega) (by omega) (by omega))) ?_
    refine L_val rfl (x_index el37 (i := at0 + (4 * i)) rfl rfl (by omega)) ?_
    refine L_val rfl (x_load sc5 rfl (hcell (at0 + 4 * i) _ (by omega) (by omega))) ?_
    refine L_val rfl (x_conv kd5 kd103 rfl rfl) ?_
    refine L_val rfl (x_shl rfl rfl (by omega) rfl) ?_
    refine L_val rfl (x_move (by conv => lhs; whnf)) ?_
    refine L_val rfl (x_move (by conv => lhs; whnf)) ?_
    refine L_val rfl (x_move (by conv => lhs; whnf)) ?_
    refine L_val rfl (x_mul rfl rfl (wr64 (c := ((4 * i : Nat) : Int)) (by omega) (by omega) (by omega))) ?_
    refine L_val rfl (x_add rfl rfl (wr64 (c := ((at0 + (4 * i) : Nat) : Int)) (by omega) (by omega) (by omega))) ?_
    refine L_val rfl (x_add rfl rfl (wr64 (c := (((at0 + (4 * i)) + 1 : Nat) : Int)) (by omega) (by omega) (by omega))) ?_
    refine L_val rfl (x_index el37 (i := (at0 + (4 * i)) + 1) rfl rfl (by omega)) ?_
    refine L_val rfl (x_load sc5 rfl (hcell (at0 + 4 * i + 1) _ (by omega) (by omega))) ?_
    refine L_val rfl (x_conv kd5 kd103 rfl rfl) ?_
    refine L_val rfl (x_shl rfl rfl (by omega) rfl) ?_
    refine L_val rfl (x_or rfl rfl) ?_
    refine L_val rfl (x_move (by conv => lhs; whnf)) ?_
    refine L_val rfl (x_move (by conv => lhs; whnf)) ?_
    refine L_val rfl (x_move (by conv => lhs; whnf)) ?_
    refine L_val rfl (x_mul rfl rfl (wr64 (c := ((4 * i : Nat) : Int)) (by omega) (by omega) (by omega))) ?_
    refine L_val rfl (x_add rfl rfl (wr64 (c := ((at0 + (4 * i) : Nat) : Int)) (by omega) (by omega) (by omega))) ?_
    refine L_val rfl (x_add rfl rfl (wr64 (c := (((at0 + (4 * i)) + 2 : Nat) : Int)) (by omega) (by omega) (by omega))) ?_
    refine L_val rfl (x_index el37 (i := (at0 + (4 * i)) + 2) rfl rfl (by omega)) ?_
    refine L_val rfl (x_load sc5 rfl (hcell (at0 + 4 * i + 2) _ (by omega) (by omega))) ?_
    refine L_val rfl (x_conv kd5 kd103 rfl rfl) ?_
    refine L_val rfl (x_shl rfl rfl (by omega) rfl) ?_
    refine L_val rfl (x_or rfl rfl) ?_
    refine L_val rfl (x_move (by conv => lhs; whnf)) ?_
    refine L_val rfl (x_move (by conv => lhs; whnf)) ?_
    refine L_val rfl (x_move (by conv => lhs; whnf)) ?_
    refine L_val rfl (x_mul rfl rfl (wr64 (c := ((4 * i : Nat) : Int)) (by omega) (by omega) (by omega))) ?_
    refine L_val rfl (x_add rfl rfl (wr64 (c := ((at0 + (4 * i) : Nat) : Int)) (by omega) (by omega) (by omega))) ?_
    refine L_val rfl (x_add rfl rfl (wr64 (c := (((at0 + (4 * i)) + 3 : Nat) : Int)) (by omega) (by omega) (by omega))) ?_
    refine L_val rfl (x_index el37 (i := (at0 + (4 * i)) + 3) rfl rfl (by omega)) ?_
    refine L_val rfl (x_load sc5 rfl (hcell (at0 + 4 * i + 3) _ (by omega) (by omega))) ?_
    refine L_val rfl (x_conv kd5 kd103 rfl rfl) ?_
    refine L_val rfl (x_or rfl rfl) ?_
    refine L_val rfl (x_indexArr ar112 (i := i) rfl rfl (by omega)) ?_
    refine L_nil ?_
    refine L_store sz103 rfl rfl (by conv => lhs; whnf) rfl hW (by rw [L32_size]; omega) (fun w7 hb hc => ?_)
    refine L_nil ?_
    refine W_region rfl ?_
    refine L_val rfl (x_move (by conv => lhs; whnf)) ?_
    refine L_val rfl (x_add rfl rfl (wr64 (c := ((i + 1 : Nat) : Int)) (by omega) (by omega) (by omega))) ?_
    refine L_val rfl (x_assign (by conv => lhs; whnf)) ?_
    refine L_nil ?_
    rw [L32_set] at hb
    refine ⟨16 - (i + 1), by omega, i + 1, by omega, rfl, ⟨rfl, rfl, rfl, rfl, rfl, rfl, rfl, trivial⟩, ?_, hC6.d.same hc⟩
    rw [hb, show 0 + i * 1 = i by omega]
    simp only [sched16, iter, st16, be32, at', List.getD_eq_getElem?_getD, List.getElem?_take, List.getElem?_drop]
    rw [if_pos (by omega), if_pos (by omega), if_pos (by omega), if_pos (by omega)]
    rfl
  · refine W_false (congrArg Value.bool (decide_eq_false (by omega))) ?_
    refine W_exit ?_
    refine W_seq ?_
    refine W_seq ?_
    refine W_region rfl ?_
    refine L_val rfl (x_assign (by conv => lhs; whnf)) ?_
    refine L_nil ?_
    refine W_block ?_
    have hi16 : i = 16 := by omega
    subst hi16
    refine W_loop (fun m f w6 => ∃ i, i ≤ 48 ∧ m = 48 - i ∧ Frm f [(1, .slice (some ⟨bb, ob, none⟩) bs.length cap), (2, i64 (at0 : Nat)), (3, ptr bH 0), (6, ptr b6 0), (7, ptr bK 0), (8, ptr bW 0), (10, i64 ((16 + i : Nat) : Int))] ∧ w6.heap[bW]? = some (.cells (L32 (sched ((bs.drop at0).take 64) i)) 112 (0, 0)) ∧ Chg [bW] w5 w6) 48
      ⟨0, by omega, rfl, ⟨rfl, rfl, rfl, rfl, rfl, rfl, rfl, trivial⟩, hW, hC6⟩ (fun m f w6 hI => ?_)
    clear hW hWl hC6 hC06 hcell
    obtain ⟨i, hi, rfl, hF, hW, hC6⟩ := hI
    obtain ⟨g, rfl⟩ := hF.eta
    have hWl := sched_len ((bs.drop at0).take 64) i
    refine W_seq ?_
    refine W_seq ?_
    refine W_region rfl ?_
    refine L_val rfl (x_move (by conv => lhs; whnf)) ?_
    refine L_val rfl (x_lss rfl rfl rfl) ?_
    refine L_nil ?_
    by_cases hcond : ((16 + i)) < 64
    · refine W_true (congrArg Value.bool (decide_eq_true (by omega))) ?_
      refine W_skip ?_
      refine W_seq ?_
      refine W_block ?_
      refine W_seq ?_
      refine W_still mixed (by kernel_rfl) rfl ?_
      refine L_val rfl (x_move (by conv => lhs; whnf)) ?_
      refine L_val rfl (x_sub rfl rfl (wr64 (c := ((((16 + i)) - 15 : Nat) : Int)) (by omega) (by omega) (by omega))) ?_
      refine L_val rfl (x_indexArr ar112 (i := ((16 + i)) - 15) rfl rfl (by omega)) ?_
      refine L_val rfl (x_load sc103 rfl (cell32 hW (i := ((16 + i)) - 15) (by omega) (by omega))) ?_
      refine L_val rfl (x_move (by conv => lhs; whnf)) ?_
      refine L_val rfl (x_sub rfl rfl (wr64 (c := ((((16 + i)) - 2 : Nat) : Int)) (by omega) (by omega) (by omega))) ?_
      refine L_val rfl (x_indexArr ar112 (i := ((16 + i)) - 2) rfl rfl (by omega)) ?_
      refine L_val rfl (x_load sc103 rfl (cell32 hW (i := ((16 + i)) - 2) (by omega) (by omega))) ?_
      refine L_val rfl (x_assign (by conv => lhs; whnf)) ?_
      refine L_val rfl (x_assign (by conv => lhs; whnf)) ?_
      refine L_nil ?_
      refine W_tail 29 mixed (by kernel_rfl) rfl ?_
      refine L_val rfl (x_move (by conv => lhs; whnf)) ?_
      refine L_val rfl (x_move (by conv => lhs; whnf)) ?_
      refine L_val rfl (x_sub rfl rfl (wr64 (c := ((((16 + i)) - 16 : Nat) : Int)) (by omega) (by omega) (by omega))) ?_
      refine L_val rfl (x_indexArr ar112 (i := ((16 + i)) - 16) rfl rfl (by omega)) ?_
      refine L_val rfl (x_load sc103 rfl (cell32 hW (i := ((16 + i)) - 16) (by omega) (by omega))) ?_
      refine L_val rfl (x_move (by conv => lhs; whnf)) ?_
      refine L_enterQ rfl (x_call ok65) (f65_turn _ (n := 7) (by omega) (by omega) _) ?_
      refine L_val rfl (x_move (by conv => lhs; whnf)) ?_
      refine L_enterQ rfl (x_call ok65) (f65_turn _ (n := 18) (by omega) (by omega) _) ?_
      refine L_val rfl (x_xor rfl rfl) ?_
      refine L_val rfl (x_move (by conv => lhs; whnf)) ?_
      refine L_val rfl (x_shr rfl rfl (by omega) rfl) ?_
      refine L_val rfl (x_xor rfl rfl) ?_
      refine L_val rfl (x_add rfl rfl rfl) ?_
      refine L_val rfl (x_move (by conv => lhs; whnf)) ?_
      refine L_val rfl (x_sub rfl rfl (wr64 (c := ((((16 + i)) - 7 : Nat) : Int)) (by omega) (by omega) (by omega))) ?_
      refine L_val rfl (x_indexArr ar112 (i := ((16 + i)) - 7) rfl rfl (by omega)) ?_
      refine L_val rfl (x_load sc103 rfl (cell32 hW (i := ((16 + i)) - 7) (by omega) (by omega))) ?_
      refine L_val rfl (x_add rfl rfl rfl) ?_
      refine L_val rfl (x_move (by conv => lhs; whnf)) ?_
      refine L_enterQ rfl (x_call ok65) (f65_turn _ (n := 17) (by omega) (by omega) _) ?_
      refine L_val rfl (x_move (by conv => lhs; whnf)) ?_
      refine L_enterQ rfl (x_call ok65) (f65_turn _ (n := 19) (by omega) (by omega) _) ?_
      refine L_val rfl (x_xor rfl rfl) ?_
      refine L_val rfl (x_move (by conv => lhs; whnf)) ?_
      refine L_val rfl (x_shr rfl rfl (by omega) rfl) ?_
      refine L_val rfl (x_xor rfl rfl) ?_
      refine L_val rfl (x_add rfl rfl rfl) ?_
      refine L_val rfl (x_indexArr ar112 (i := (16 + i)) rfl rfl (by omega)) ?_
      refine L_nil ?_
      refine L_store sz103 rfl rfl (by conv => lhs; whnf) rfl hW (by rw [L32_size]; omega) (fun w7 hb hc => ?_)
      refine L_nil ?_
      refine W_region rfl ?_
      refine L_val rfl (x_move (by conv => lhs; whnf)) ?_
      refine L_val rfl (x_add rfl rfl (wr64 (c := ((((16 + i)) + 1 : Nat) : Int)) (by omega) (by omega) (by omega))) ?_
      refine L_val rfl (x_assign (by conv => lhs; whnf)) ?_
      refine L_nil ?_
      rw [L32_set] at hb
      refine ⟨48 - (i + 1), by omega, i + 1, by omega, rfl, ⟨rfl, rfl, rfl, rfl, rfl, rfl, rfl, trivial⟩, ?_, hC6.d.d.same hc⟩
      rw [hb, show 0 + (16 + i) * 1 = 16 + i by omega, show 16 + i - 16 = i by omega, show 16 + i - 15 = i + 1 by omega, show 16 + i - 7 = i + 9 by omega, show 16 + i - 2 = i + 14 by omega]
      rfl
    · refine W_false (congrArg Value.bool (decide_eq_false (by omega))) ?_
      refine W_exit ?_
      refine W_seq ?_
      refine W_region rfl ?_
      refine L_val rfl (x_loadRow ag104 rfl (hC6.at hH5 (by simp; omega)) (by rw [L32_size]; exact hh)) ?_
      refine L_alloc zero104 rfl (fun w7 hb7 hc7 hs7 => ?_)
      refine L_storeAll (cs := L32 h) sz104 rfl rfl rfl (by rw [L32_size]; exact hh) (L32_one _) hb7 rfl (fun w8 hb8 hc8 => ?_)
      refine L_nil ?_
      refine W_seq ?_
      refine W_seq ?_
      refine W_region rfl ?_
      refine L_val rfl (x_assign (by conv => lhs; whnf)) ?_
      refine L_nil ?_
      refine W_block ?_
      have hi48 : i = 48 := by omega
      subst hi48
      have hlW : bW < w6.heap.size := lt_of_at hW
      have hC8 : Chg [bW] w5 w8 := (hC6.trans0 hc7).trans hc8 (by simp; have := hC6.size; omega)
      have hK8 : w8.heap[bK]? = some (.cells (L32 KS) 112 (0, 0)) := hC8.at hK5 (by simp; omega)
      have hW8 : w8.heap[bW]? = some (.cells (L32 (sched ((bs.drop at0).take 64) 48)) 112 (0, 0)) := hc8.at (hc7.at hW (by simp)) (by simp; omega)
      have hSl := sched_len ((bs.drop at0).take 64) 48
      have hKl := KS_len
      have hlv : w5.heap.size ≤ w6.heap.size := hC6.size
      generalize hqV : w6.heap.size = bV at *
      refine W_loop (fun m f w9 => ∃ i, i ≤ 64 ∧ m = 64 - i ∧ Frm f [(1, .slice (some ⟨bb, ob, none⟩) bs.length cap), (2, i64 (at0 : Nat)), (3, ptr bH 0), (6, ptr b6 0), (7, ptr bK 0), (8, ptr bW 0), (13, ptr bV 0), (14, i64 (i : Nat))] ∧ w9.heap[bV]? = some (.cells (L32 (rounds ((bs.drop at0).take 64) h i)) 104 (0, 0)) ∧ Chg [bV] w8 w9) 64
        ⟨0, by omega, rfl, ⟨rfl, rfl, rfl, rfl, rfl, rfl, rfl, rfl, trivial⟩, hb8, Chg.refl _ _⟩ (fun m f w9 hI => ?_)
      clear hW hWl hC6
      obtain ⟨i, hi, rfl, hF, hV, hC9⟩ := hI
      obtain ⟨g, rfl⟩ := hF.eta
      have hVl := rounds_len ((bs.drop at0).take 64) h hh i
      have hK : w9.heap[bK]? = some (.cells (L32 KS) 112 (0, 0)) := hC9.at hK8 (by simp; omega)
      have hW : w9.heap[bW]? = some (.cells (L32 (sched ((bs.drop at0).take 64) 48)) 112 (0, 0)) := hC9.at hW8 (by simp; omega)
      refine W_seq ?_
      refine W_seq ?_
      refine W_region rfl ?_
      refine L_val rfl (x_move (by conv => lhs; whnf)) ?_
      refine L_val rfl (x_lss rfl rfl rfl) ?_
      refine L_nil ?_
      by_cases hcond : i < 64
      · refine W_true (congrArg Value.bool (decide_eq_true (by omega))) ?_
        refine W_skip ?_
        refine W_seq ?_
        refine W_block ?_
        refine W_seq ?_
        refine W_still mixed (by kernel_rfl) rfl ?_
        refine L_val rfl (x_indexArr ar104 (i := 0) rfl rfl (by omega)) ?_
        refine L_val rfl (x_load sc103 rfl (cell32 hV (i := 0) (by omega) (by omega))) ?_
        refine L_val rfl (x_indexArr ar104 (i := 4) rfl rfl (by omega)) ?_
        refine L_val rfl (x_load sc103 rfl (cell32 hV (i := 4) (by omega) (by omega))) ?_
        refine L_val rfl (x_assign (by conv => lhs; whnf)) ?_
        refine L_val rfl (x_assign (by conv => lhs; whnf)) ?_
        refine L_nil ?_
        refine W_seq ?_
        refine W_still mixed (by kernel_rfl) rfl ?_
        refine L_val rfl (x_indexArr ar104 (i := 7) rfl rfl (by omega)) ?_
        refine L_val rfl (x_load sc103 rfl (cell32 hV (i := 7) (by omega) (by omega))) ?_
        refine L_val rfl (x_move (by conv => lhs; whnf)) ?_
        refine L_enterQ rfl (x_call ok65) (f65_turn _ (n := 6) (by omega) (by omega) _) ?_
        refine L_val rfl (x_move (by conv => lhs; whnf)) ?_
        refine L_enterQ rfl (x_call ok65) (f65_turn _ (n := 11) (by omega) (by omega) _) ?_
        refine L_val rfl (x_xor rfl rfl) ?_
        refine L_val rfl (x_move (by conv => lhs; whnf)) ?_
        refine L_enterQ rfl (x_call ok65) (f65_turn _ (n := 25) (by omega) (by omega) _) ?_
        refine L_val rfl (x_xor rfl rfl) ?_
        refine L_val rfl (x_add rfl rfl rfl) ?_
        refine L_val rfl (x_move (by conv => lhs; whnf)) ?_
        refine L_val rfl (x_indexArr ar104 (i := 5) rfl rfl (by omega)) ?_
        refine L_val rfl (x_load sc103 rfl (cell32 hV (i := 5) (by omega) (by omega))) ?_
        refine L_val rfl (x_and rfl rfl) ?_
        refine L_val rfl (x_move (by conv => lhs; whnf)) ?_
        refine L_val rfl (x_not32 rfl) ?_
        refine L_val rfl (x_indexArr ar104 (i := 6) rfl rfl (by omega)) ?_
        refine L_val rfl (x_load sc103 rfl (cell32 hV (i := 6) (by omega) (by omega))) ?_
        refine L_val rfl (x_and rfl rfl) ?_
        refine L_val rfl (x_xor rfl rfl) ?_
        refine L_val rfl (x_add rfl rfl rfl) ?_
        refine L_val rfl (x_move (by conv => lhs; whnf)) ?_
        refine L_val rfl (x_indexArr ar112 (i := i) rfl rfl (by omega)) ?_
        refine L_val rfl (x_load sc103 rfl (cell32 hK (i := i) (by omega) (by omega))) ?_
        refine L_val rfl (x_add rfl rfl rfl) ?_
        refine L_val rfl (x_move (by conv => lhs; whnf)) ?_
        refine L_val rfl (x_indexArr ar112 (i := i) rfl rfl (by omega)) ?_
        refine L_val rfl (x_load sc103 rfl (cell32 hW (i := i) (by omega) (by omega))) ?_
        refine L_val rfl (x_add rfl rfl rfl) ?_
        refine L_val rfl (x_assign (by conv => lhs; whnf)) ?_
        refine L_nil ?_
        refine W_seq ?_
        refine W_still mixed (by kernel_rfl) rfl ?_
        refine L_val rfl (x_move (by conv => lhs; whnf)) ?_
        refine L_enterQ rfl (x_call ok65) (f65_turn _ (n := 2) (by omega) (by omega) _) ?_
        refine L_val rfl (x_move (by conv => lhs; whnf)) ?_
        refine L_enterQ rfl (x_call ok65) (f65_turn _ (n := 13) (by omega) (by omega) _) ?_
        refine L_val rfl (x_xor rfl rfl) ?_
        refine L_val rfl (x_move (by conv => lhs; whnf)) ?_
        refine L_enterQ rfl (x_call ok65) (f65_turn _ (n := 22) (by omega) (by omega) _) ?_
        refine L_val rfl (x_xor rfl rfl) ?_
        refine L_val rfl (x_move (by conv => lhs; whnf)) ?_
        refine L_val rfl (x_indexArr ar104 (i := 1) rfl rfl (by omega)) ?_
        refine L_val rfl (x_load sc103 rfl (cell32 hV (i := 1) (by omega) (by omega))) ?_
        refine L_val rfl (x_and rfl rfl) ?_
        refine L_val rfl (x_move (by conv => lhs; whnf)) ?_
        refine L_val rfl (x_indexArr ar104 (i := 2) rfl rfl (by omega)) ?_
        refine L_val rfl (x_load sc103 rfl (cell32 hV (i := 2) (by omega) (by omega))) ?_
        refine L_val rfl (x_and rfl rfl) ?_
        refine L_val rfl (x_xor rfl rfl) ?_
        refine L_val rfl (x_indexArr ar104 (i := 1) rfl rfl (by omega)) ?_
        refine L_val rfl (x_load sc103 rfl (cell32 hV (i := 1) (by omega) (by omega))) ?_
        refine L_val rfl (x_indexArr ar104 (i := 2) rfl rfl (by omega)) ?_
        refine L_val rfl (x_load sc103 rfl (cell32 hV (i := 2) (by omega) (by omega))) ?_
        refine L_val rfl (x_and rfl rfl) ?_
        refine L_val rfl (x_xor rfl rfl) ?_
        refine L_val rfl (x_add rfl rfl rfl) ?_
        refine L_val rfl (x_assign (by conv => lhs; whnf)) ?_
        refine L_nil ?_
        refine W_region rfl ?_
        refine L_val rfl (x_move (by conv => lhs; whnf)) ?_
        refine L_val rfl (x_move (by conv => lhs; whnf)) ?_
        refine L_val rfl (x_add rfl rfl rfl) ?_
        refine L_val rfl (x_move (by conv => lhs; whnf)) ?_
        refine L_val rfl (x_indexArr ar104 (i := 1) rfl rfl (by omega)) ?_
        refine L_val rfl (x_load sc103 rfl (cell32 hV (i := 1) (by omega) (by omega))) ?_
        refine L_val rfl (x_indexArr ar104 (i := 2) rfl rfl (by omega)) ?_
        refine L_val rfl (x_load sc103 rfl (cell32 hV (i := 2) (by omega) (by omega))) ?_
        refine L_val rfl (x_indexArr ar104 (i := 3) rfl rfl (by omega)) ?_
        refine L_val rfl (x_load sc103 rfl (cell32 hV (i := 3) (by omega) (by omega))) ?_
        refine L_val rfl (x_move (by conv => lhs; whnf)) ?_
        refine L_val rfl (x_add rfl rfl rfl) ?_
        refine L_val rfl (x_move (by conv => lhs; whnf)) ?_
        refine L_val rfl (x_indexArr ar104 (i := 5) rfl rfl (by omega)) ?_
        refine L_val rfl (x_load sc103 rfl (cell32 hV (i := 5) (by omega) (by omega))) ?_
        refine L_val rfl (x_indexArr ar104 (i := 6) rfl rfl (by omega)) ?_
        refine L_val rfl (x_load sc103 rfl (cell32 hV (i := 6) (by omega) (by omega))) ?_
        refine L_val rfl (x_build rfl (run_build _ _ _ (L32 (rnd (sched ((bs.drop at0).take 64) 48) i (rounds ((bs.drop at0).take 64) h i))) (by kernel_rfl))) ?_
        refine L_storeAll sz104 rfl rfl rfl rfl (L32_one _) hV (by rw [L32_size]; exact hVl) (fun w10 hb hc => ?_)
        refine L_nil ?_
        refine W_region rfl ?_
        refine L_val rfl (x_move (by conv => lhs; whnf)) ?_
        refine L_val rfl (x_add rfl rfl (wr64 (c := ((i + 1 : Nat) : Int)) (by omega) (by omega) (by omega))) ?_
        refine L_val rfl (x_assign (by conv => lhs; whnf)) ?_
        refine L_nil ?_
        exact ⟨64 - (i + 1), by omega, i + 1, by omega, rfl, ⟨rfl, rfl, rfl, rfl, rfl, rfl, rfl, rfl, trivial⟩, hb, hC9.d.d.d.same hc⟩
      · refine W_false (congrArg Value.bool (decide_eq_false (by omega))) ?_
        refine W_exit ?_
        refine W_seq ?_
        refine W_seq ?_
        refine W_region rfl ?_
        refine L_val rfl (x_assign (by conv => lhs; whnf)) ?_
        refine L_nil ?_
        refine W_block ?_
        have hi64 : i = 64 := by omega
        subst hi64
        have hC9' : Chg [bW] w5 w9 := hC8.trans hC9 (by simp; omega)
        refine W_loop (fun m f w11 => ∃ i, i ≤ 8 ∧ m = 8 - i ∧ Frm f [(1, .slice (some ⟨bb, ob, none⟩) bs.length cap), (2, i64 (at0 : Nat)), (3, ptr bH 0), (6, ptr b6 0), (7, ptr bK 0), (8, ptr bW 0), (13, ptr bV 0), (19, i64 (i : Nat))] ∧ w11.heap[bH]? = some (.cells (L32 (iter (addH (rounds ((bs.drop at0).take 64) h 64)) i h)) 104 (0, 0)) ∧ Chg [bH] w9 w11) 8
          ⟨0, by omega, rfl, ⟨rfl, rfl, rfl, rfl, rfl, rfl, rfl, rfl, trivial⟩, hC9'.at hH5 (by simp; omega), Chg.refl _ _⟩ (fun m f w11 hI => ?_)
        have hV9 := hV
        clear hV
        obtain ⟨i, hi, rfl, hF, hH, hC11⟩ := hI
        obtain ⟨g, rfl⟩ := hF.eta
        have hV := hC11.at hV9 (by simp; omega)
        have hHl := addN_len (rounds ((bs.drop at0).take 64) h 64) h i
        refine W_seq ?_
        refine W_seq ?_
        refine W_region rfl ?_
        refine L_val rfl (x_move (by conv => lhs; whnf)) ?_
        refine L_val rfl (x_lss rfl rfl rfl) ?_
        refine L_nil ?_
        by_cases hcond : i < 8
        · refine W_true (congrArg Value.bool (decide_eq_true (by omega))) ?_
          refine W_skip ?_
          refine W_seq ?_
          refine W_block ?_
          refine W_tail 9 mixed (by kernel_rfl) rfl ?_
          refine L_val rfl (x_move (by conv => lhs; whnf)) ?_
          refine L_val rfl (x_move (by conv => lhs; whnf)) ?_
          refine L_val rfl (x_indexArr ar104 (i := i) rfl rfl (by omega)) ?_
          refine L_val rfl (x_load sc103 rfl (cell32 hH (i := i) (by omega) (by omega))) ?_
          refine L_val rfl (x_move (by conv => lhs; whnf)) ?_
          refine L_val rfl (x_indexArr ar104 (i := i) rfl rfl (by omega)) ?_
          refine L_val rfl (x_load sc103 rfl (cell32 hV (i := i) (by omega) (by omega))) ?_
          refine L_val rfl (x_add rfl rfl rfl) ?_
          refine L_val rfl (x_indexArr ar104 (i := i) rfl rfl (by omega)) ?_
          refine L_nil ?_
          refine L_store sz103 rfl rfl (by conv => lhs; whnf) rfl hH (by rw [L32_size]; omega) (fun w12 hb hc => ?_)
          refine L_nil ?_
          refine W_region rfl ?_
          refine L_val rfl (x_move (by conv => lhs; whnf)) ?_
          refine L_val rfl (x_add rfl rfl (wr64 (c := ((i + 1 : Nat) : Int)) (by omega) (by omega) (by omega))) ?_
          refine L_val rfl (x_assign (by conv => lhs; whnf)) ?_
          refine L_nil ?_
          rw [L32_set, show 0 + i * 1 = i by omega] at hb
          exact ⟨8 - (i + 1), by omega, i + 1, by omega, rfl, ⟨rfl, rfl, rfl, rfl, rfl, rfl, rfl, rfl, trivial⟩, hb, hC11.d.same hc⟩
        · refine W_false (congrArg Value.bool (decide_eq_false (by omega))) ?_
          refine W_exit ?_
          refine W_seq ?_
          refine W_region rfl ?_
          refine L_val rfl (x_loadRow ag104 rfl hH (by rw [L32_size, hHl]; exact hh)) ?_
          refine L_storeAll sz104 rfl rfl rfl (by rw [L32_size, hHl]; exact hh) (L32_one _) (hC11.at (hC9'.at h65 (by simp; omega)) (by simp; omega)) hc6 (fun w12 hb hc => ?_)
          refine L_nil ?_
          refine W_ret ?_
          have hi8 : i = 8 := by omega
          subst hi8
          exact resRow rfl ag104 rfl hb (by rw [L32_size, hHl]; exact hh) ⟨rfl, ((hC5.out hC9' (by simp; omega)).out hC11 (by simp; omega)).out hc (by simp; omega)⟩
end Go.Proofs.Ytinoebjhcmeppaa
