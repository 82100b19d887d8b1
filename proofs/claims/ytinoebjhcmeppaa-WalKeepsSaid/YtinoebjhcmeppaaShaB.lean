/- The walk of the program's '(*sha.Digest).block'. -/
import Derived.Test.YtinoebjhcmeppaaShaA
namespace Go.Proofs.Ytinoebjhcmeppaa
open E Sha
set_option maxRecDepth 100000
set_option maxHeartbeats 2000000

/-- Bytes that stay as they are while the digest's numbers turn. -/
def Src (w : World) (bd : Nat) (rest : List Int) (n : Int) (v : Value) (bs : List Int) : Prop :=
  ∀ w', Chg [bd] w w' → (∃ h, h.length = 8 ∧ w'.heap[bd]? = some (.cells (dig h rest n) 116 (0, 0))) → Bt w' v bs
theorem Src.of (w : World) {bd : Nat} {rest : List Int} {n : Int} {v : Value} {bs : List Int} (h : Bt w v bs) (hn : ∀ b, v.ownBlock = some b → b ≠ bd) : Src w bd rest n v bs :=
  fun _ hc _ => h.chg hc (fun b hb hm => hn b hb (by simpa using hm))
theorem Src.drop {w : World} {bd : Nat} {rest : List Int} {n : Int} {a : Option Addr} {len cap : Nat} {bs : List Int} (h : Src w bd rest n (.slice a len cap) bs) (hl : bs.length = len) {l : Nat} (hl2 : l ≤ len) :
    Src w bd rest n (.slice (baseAt a cap l 1) (len - l) (cap - l)) (bs.drop l) := fun w' h1 h2 => by
  have := (h w' h1 h2).slice (l := l) (h := len) hl2 (Nat.le_refl _)
  rwa [List.take_of_length_le (by simp; omega), ← List.map_drop] at this

/-- Old numbers in the row count for nothing. -/
theorem iter16_agree (s a b : List Int) (ha : a.length = 64) (hb : b.length = 64) : ∀ i, i ≤ 16 → ∀ j, j < i → at' (iter (st16 s) i a) j = at' (iter (st16 s) i b) j
  | 0, _, j, h => by omega
  | i + 1, hi, j, h => by
    have la := iter_length (f := st16 s) (fun i l => by simp [st16]) i a
    have lb := iter_length (f := st16 s) (fun i l => by simp [st16]) i b
    simp only [iter, st16, at', List.getD_eq_getElem?_getD, List.getElem?_set]
    by_cases e : i = j
    · simp [e]; rw [if_pos (by subst e; omega), if_pos (by subst e; omega)]
    · have := iter16_agree s a b ha hb i (by omega) j (by omega)
      simpa [e, at', List.getD_eq_getElem?_getD] using this
theorem iter64_agree {a b : List Int} (ha : a.length = 64) (hb : b.length = 64) (h0 : ∀ j, j < 16 → at' a j = at' b j) : ∀ i, i ≤ 48 → ∀ j, j < 16 + i → at' (iter st64 i a) j = at' (iter st64 i b) j
  | 0, _, j, h => h0 j h
  | i + 1, hi, j, h => by
    have la := iter_length (f := st64) (fun i l => by simp [st64]) i a
    have lb := iter_length (f := st64) (fun i l => by simp [st64]) i b
    have ih := iter64_agree ha hb h0 i (by omega)
    by_cases e : 16 + i = j
    · simp only [iter, st64, at', List.getD_eq_getElem?_getD, List.getElem?_set]
      subst e
      simp only [if_true]
      rw [if_pos (by omega), if_pos (by omega)]
      have e1 := ih i (by omega); have e2 := ih (i + 1) (by omega); have e3 := ih (i + 9) (by omega); have e4 := ih (i + 14) (by omega)
      simp only [at', List.getD_eq_getElem?_getD] at e1 e2 e3 e4
      rw [e1, e2, e3, e4]
    · have := ih j (by omega)
      simp only [iter, st64]
      simp only [at', List.getD_eq_getElem?_getD, List.getElem?_set, e, if_false] at this ⊢
      exact this
theorem sched_any (s a : List Int) (ha : a.length = 64) : iter st64 48 (iter (st16 s) 16 a) = sched s 48 := by
  have la := iter_length (f := st16 s) (fun i l => by simp [st16]) 16 a
  have la2 := iter_length (f := st64) (fun i l => by simp [st64]) 48 (iter (st16 s) 16 a)
  have lb := sched16_len s 16
  have lb2 := sched_len s 48
  have h := iter64_agree (a := iter (st16 s) 16 a) (b := sched16 s 16) (by omega) lb (iter16_agree s a _ ha (by simp) 16 (by omega)) 48 (by omega)
  refine List.ext_getElem (by rw [la2, lb2]; omega) (fun j h1 h2 => ?_)
  have := h j (by omega)
  simpa [at', sched, h1, show j < (iter st64 48 (sched16 s 16)).length from h2] using this

theorem f67_block {w : World} {bd : Nat} {h rest : List Int} {n : Int} {v : Value} {bs : List Int} (hb0 : w.heap[bd]? = some (.cells (dig h rest n) 116 (0, 0))) (hh : h.length = 8) (hr : rest.length = 64) (hsrc : Src w bd rest n v bs) :
    Calls Try.prog 67 #[ptr bd 0, v] w (Rv fun _ w' => w'.heap[bd]? = some (.cells (dig (blocks h bs) rest n) 116 (0, 0)) ∧ Chg [bd] w w') := by
  have hbd := lt_of_at hb0
  refine calls_W (args := [ptr bd 0, v]) Try.func67 rfl Try.ntmps67 rfl ?_
  refine W_seq ?_
  refine W_region rfl ?_
  refine L_call rfl (x_call ok80) (f80_rounds _) (fun k wA ⟨hk, hcA⟩ => ?_)
  subst hk
  refine L_alloc zero112 rfl (fun wB hb4' hcB hsB => ?_)
  refine L_storeAll sz112 rfl rfl rfl rfl (L32_one _) hb4' rfl (fun wC hb4 hcC => ?_)
  refine L_nil ?_
  refine W_seq ?_
  refine W_region rfl ?_
  refine L_alloc zero112 rfl (fun wD hb5 hcD hsD => ?_)
  refine L_nil ?_
  refine W_block ?_
  have hsA := hcA.size
  have hsC := hcC.size
  have hAD : Chg [] w wD := ((hcA.trans0 hcB).trans hcC (by simp; omega)).trans0 hcD
  have hK0 : wD.heap[wA.heap.size]? = some (.cells (L32 KS) 112 (0, 0)) := hcD.at hb4 (by simp)
  refine W_loop (fun m f w1 => ∃ h1 v1 bs1, m = bs1.length ∧ Frm f [(0, ptr bd 0), (1, v1), (4, ptr wA.heap.size 0), (5, ptr wC.heap.size 0)] ∧ h1.length = 8 ∧
      w1.heap[bd]? = some (.cells (dig h1 rest n) 116 (0, 0)) ∧ w1.heap[wA.heap.size]? = some (.cells (L32 KS) 112 (0, 0)) ∧ (∃ ws, ws.length = 64 ∧ w1.heap[wC.heap.size]? = some (.cells (L32 ws) 112 (0, 0))) ∧
      Chg [bd] w w1 ∧ Src w bd rest n v1 bs1 ∧ blocks h1 bs1 = blocks h bs) bs.length
    ⟨h, v, bs, rfl, ⟨rfl, rfl, rfl, rfl, trivial⟩, hh, hAD.at hb0 (by simp), hK0, ⟨List.replicate 64 0, by simp, by rw [hb5]; rfl⟩, hAD.mono (by simp), hsrc, rfl⟩ (fun m f w1 hI => ?_)
  obtain ⟨h1, v1, bs1, rfl, hF, hh1, hD1, hK1, ⟨ws0, hws0, hW1⟩, hC1, hS1, hB1⟩ := hI
  obtain ⟨g, rfl⟩ := hF.eta
  obtain ⟨a1, cap1, hv1, hlc1, hcm1, -⟩ := hS1 w1 hC1 ⟨h1, hh1, hD1⟩
  rw [List.length_map] at hv1 hlc1
  subst hv1
  refine W_seq ?_
  refine W_seq ?_
  refine W_region rfl ?_
  refine L_val rfl (x_move (by conv => lhs; whnf)) ?_
  refine L_val rfl (x_len el37 rfl) ?_
  refine L_val rfl (x_geq rfl rfl rfl) ?_
  refine L_nil ?_
  by_cases hcond : bs1.length ≥ 64
  · refine W_true (congrArg Value.bool (decide_eq_true (by omega))) ?_
    refine W_skip ?_
    refine W_seq ?_
    refine W_block ?_
    refine W_seq ?_
    refine W_seq ?_
    refine W_region rfl ?_
    refine L_val rfl (x_move (by conv => lhs; whnf)) ?_
    refine L_nil ?_
    refine W_block ?_
    obtain ⟨bb, ob, cap1', hv1, hlc1', -, hcell1⟩ := (hS1 w1 hC1 ⟨h1, hh1, hD1⟩).some (by omega)
    simp only [Value.slice.injEq] at hv1
    obtain ⟨rfl, -, rfl⟩ := hv1
    have hne1 : wC.heap.size ≠ bd := by have := hcB.size; omega
    have hne2 : wA.heap.size ≠ bd := by omega
    have hne3 : wA.heap.size ≠ wC.heap.size := by omega
    refine W_loop (fun m f w2 => ∃ i, i ≤ 16 ∧ m = 16 - i ∧ Frm f [(0, ptr bd 0), (1, .slice (some ⟨bb, ob, none⟩) bs1.length cap1), (4, ptr wA.heap.size 0), (5, ptr wC.heap.size 0), (26, i64 (i : Nat))] ∧
        w2.heap[wC.heap.size]? = some (.cells (L32 (iter (st16 (bs1.take 64)) i ws0)) 112 (0, 0)) ∧ Chg [wC.heap.size] w1 w2) 16
      ⟨0, by omega, rfl, ⟨rfl, rfl, rfl, rfl, rfl, trivial⟩, hW1, Chg.refl _ _⟩ (fun m f w2 hI => ?_)
    obtain ⟨i, hi, rfl, hF, hW, hC2⟩ := hI
    obtain ⟨g, rfl⟩ := hF.eta
    have hC02 : Chg [bd] w w2 := hC1.trans hC2 (by simp; omega)
    have hWl := iter_length (f := st16 (bs1.take 64)) (fun i l => by simp [st16]) i ws0
    obtain ⟨bb', ob', cap1', hv1, hlc1', -, hcell⟩ := (hS1 w2 hC02 ⟨h1, hh1, hC2.at hD1 (by simp; omega)⟩).some (by omega)
    simp only [Value.slice.injEq, Option.some.injEq, Addr.mk.injEq, and_true] at hv1
    obtain ⟨⟨rfl, rfl⟩, -, rfl⟩ := hv1
    refine W_seq ?_
    refine W_region rfl ?_
    refine L_val rfl (x_lss rfl rfl rfl) ?_
    refine L_nil ?_
    refine W_seq ?_
    by_cases hcond : i < 16
    · refine W_true (congrArg Value.bool (decide_eq_true (by omega))) ?_
      refine W_skip ?_
      refine W_seq ?_
      refine W_block ?_
      refine W_seq ?_
      refine W_region rfl ?_
      refine L_val rfl (x_move (by conv => lhs; whnf)) ?_
      refine L_val rfl (x_assign (by conv => lhs; whnf)) ?_
      refine L_nil ?_
      refine W_tail 35 mixed (by kernel_rfl) rfl ?_
      refine L_val rfl (x_move (by conv => lhs; whnf)) ?_
      refine L_val rfl (x_move (by conv => lhs; whnf)) ?_
      refine L_val rfl (x_move (by conv => lhs; whnf)) ?_
      refine L_val rfl (x_mul rfl rfl (wr64 (c := ((4 * i : Nat) : Int)) (by omega) (by omega) (by omega))) ?_
      refine L_val rfl (x_index el37 (i := 4 * i) rfl rfl (by omega)) ?_
      refine L_val rfl (x_load sc5 rfl (hcell (4 * i) _ (by omega) (by omega))) ?_
      refine L_val rfl (x_conv kd5 kd103 rfl rfl) ?_
      refine L_val rfl (x_shl rfl rfl (by omega) rfl) ?_
      refine L_val rfl (x_move (by conv => lhs; whnf)) ?_
      refine L_val rfl (x_move (by conv => lhs; whnf)) ?_
      refine L_val rfl (x_mul rfl rfl (wr64 (c := ((4 * i : Nat) : Int)) (by omega) (by omega) (by omega))) ?_
      refine L_val rfl (x_add rfl rfl (wr64 (c := (((4 * i) + 1 : Nat) : Int)) (by omega) (by omega) (by omega))) ?_
      refine L_val rfl (x_index el37 (i := (4 * i) + 1) rfl rfl (by omega)) ?_
      refine L_val rfl (x_load sc5 rfl (hcell (4 * i + 1) _ (by omega) (by omega))) ?_
      refine L_val rfl (x_conv kd5 kd103 rfl rfl) ?_
      refine L_val rfl (x_shl rfl rfl (by omega) rfl) ?_
      refine L_val rfl (x_or rfl rfl) ?_
      refine L_val rfl (x_move (by conv => lhs; whnf)) ?_
      refine L_val rfl (x_move (by conv => lhs; whnf)) ?_
      refine L_val rfl (x_mul rfl rfl (wr64 (c := ((4 * i : Nat) : Int)) (by omega) (by omega) (by omega))) ?_
      refine L_val rfl (x_add rfl rfl (wr64 (c := (((4 * i) + 2 : Nat) : Int)) (by omega) (by omega) (by omega))) ?_
      refine L_val rfl (x_index el37 (i := (4 * i) + 2) rfl rfl (by omega)) ?_
      refine L_val rfl (x_load sc5 rfl (hcell (4 * i + 2) _ (by omega) (by omega))) ?_
      refine L_val rfl (x_conv kd5 kd103 rfl rfl) ?_
      refine L_val rfl (x_shl rfl rfl (by omega) rfl) ?_
      refine L_val rfl (x_or rfl rfl) ?_
      refine L_val rfl (x_move (by conv => lhs; whnf)) ?_
      refine L_val rfl (x_move (by conv => lhs; whnf)) ?_
      refine L_val rfl (x_mul rfl rfl (wr64 (c := ((4 * i : Nat) : Int)) (by omega) (by omega) (by omega))) ?_
      refine L_val rfl (x_add rfl rfl (wr64 (c := (((4 * i) + 3 : Nat) : Int)) (by omega) (by omega) (by omega))) ?_
      refine L_val rfl (x_index el37 (i := (4 * i) + 3) rfl rfl (by omega)) ?_
      refine L_val rfl (x_load sc5 rfl (hcell (4 * i + 3) _ (by omega) (by omega))) ?_
      refine L_val rfl (x_conv kd5 kd103 rfl rfl) ?_
      refine L_val rfl (x_or rfl rfl) ?_
      refine L_val rfl (x_indexArr ar112 (i := i) rfl rfl (by omega)) ?_
      refine L_nil ?_
      refine L_store sz103 rfl rfl (by conv => lhs; whnf) rfl hW (by rw [L32_size]; omega) (fun w3 hb hc => ?_)
      refine L_nil ?_
      refine W_region rfl ?_
      refine L_val rfl (x_add rfl rfl (wr64 (c := ((i + 1 : Nat) : Int)) (by omega) (by omega) (by omega))) ?_
      refine L_val rfl (x_move (by conv => lhs; whnf)) ?_
      refine L_nil ?_
      rw [L32_set] at hb
      refine ⟨16 - (i + 1), by omega, i + 1, by omega, rfl, ⟨rfl, rfl, rfl, rfl, rfl, trivial⟩, ?_, hC2.d.same hc⟩
      rw [hb, show 0 + i * 1 = i by omega]
      simp only [iter, st16, be32, at', List.getD_eq_getElem?_getD, List.getElem?_take]
      rw [if_pos (by omega), if_pos (by omega), if_pos (by omega), if_pos (by omega)]
      rfl
    · refine W_false (congrArg Value.bool (decide_eq_false (by omega))) ?_
      refine W_exit ?_
      refine W_seq ?_
      refine W_seq ?_
      refine W_region rfl ?_
      refine L_val rfl (x_assign (by conv => lhs; whnf)) ?_
      refine L_nil ?_
      refine W_block ?_
      have hWl16 := iter_length (f := st16 (bs1.take 64)) (fun i l => by simp [st16]) 16 ws0
      have hi16 : i = 16 := by omega
      subst hi16
      refine W_loop (fun m f w2 => ∃ i, i ≤ 48 ∧ m = 48 - i ∧ Frm f [(0, ptr bd 0), (1, .slice (some ⟨bb, ob, none⟩) bs1.length cap1), (4, ptr wA.heap.size 0), (5, ptr wC.heap.size 0), (7, i64 ((16 + i : Nat) : Int))] ∧
          w2.heap[wC.heap.size]? = some (.cells (L32 (iter st64 i (iter (st16 (bs1.take 64)) 16 ws0))) 112 (0, 0)) ∧ Chg [wC.heap.size] w1 w2) 48
        ⟨0, by omega, rfl, ⟨rfl, rfl, rfl, rfl, rfl, trivial⟩, hW, hC2⟩ (fun m f w2 hI => ?_)
      clear hW hC2 hC02 hWl hcell
      obtain ⟨i, hi, rfl, hF, hW, hC2⟩ := hI
      obtain ⟨g, rfl⟩ := hF.eta
      have hWl := iter_length (f := st64) (fun i l => by simp [st64]) i (iter (st16 (bs1.take 64)) 16 ws0)
      refine W_seq ?_
      refine W_seq ?_
      refine W_region rfl ?_
      refine L_val rfl (x_move (by conv => lhs; whnf)) ?_
      refine L_val rfl (x_lss rfl rfl rfl) ?_
      refine L_nil ?_
      by_cases hcond : ((16 + i)) < 64
      · refine W_true (congrArg Value.bool (decide_eq_true (by omega))) ?_
        refine W_skip ?_
        refine W_seq ?_
        refine W_block ?_
        refine W_seq ?_
        refine W_still mixed (by kernel_rfl) rfl ?_
        refine L_val rfl (x_move (by conv => lhs; whnf)) ?_
        refine L_val rfl (x_sub rfl rfl (wr64 (c := ((((16 + i)) - 15 : Nat) : Int)) (by omega) (by omega) (by omega))) ?_
        refine L_val rfl (x_indexArr ar112 (i := ((16 + i)) - 15) rfl rfl (by omega)) ?_
        refine L_val rfl (x_load sc103 rfl (cell32 hW (i := ((16 + i)) - 15) (by omega) (by omega))) ?_
        refine L_val rfl (x_move (by conv => lhs; whnf)) ?_
        refine L_val rfl (x_sub rfl rfl (wr64 (c := ((((16 + i)) - 2 : Nat) : Int)) (by omega) (by omega) (by omega))) ?_
        refine L_val rfl (x_indexArr ar112 (i := ((16 + i)) - 2) rfl rfl (by omega)) ?_
        refine L_val rfl (x_load sc103 rfl (cell32 hW (i := ((16 + i)) - 2) (by omega) (by omega))) ?_
        refine L_val rfl (x_assign (by conv => lhs; whnf)) ?_
        refine L_val rfl (x_assign (by conv => lhs; whnf)) ?_
        refine L_nil ?_
        refine W_seq ?_
        refine W_region rfl ?_
        refine L_val rfl (x_move (by conv => lhs; whnf)) ?_
        refine L_enterQ rfl (x_call ok81) (f81_rot _ (k := -7) (n := 7) (by kernel_rfl) (by omega) (by omega) _) ?_
        refine L_val rfl (x_move (by conv => lhs; whnf)) ?_
        refine L_enterQ rfl (x_call ok81) (f81_rot _ (k := -18) (n := 18) (by kernel_rfl) (by omega) (by omega) _) ?_
        refine L_val rfl (x_xor rfl rfl) ?_
        refine L_val rfl (x_move (by conv => lhs; whnf)) ?_
        refine L_val rfl (x_shr rfl rfl (by omega) rfl) ?_
        refine L_val rfl (x_xor rfl rfl) ?_
        refine L_val rfl (x_assign (by conv => lhs; whnf)) ?_
        refine L_nil ?_
        refine W_seq ?_
        refine W_region rfl ?_
        refine L_val rfl (x_move (by conv => lhs; whnf)) ?_
        refine L_enterQ rfl (x_call ok81) (f81_rot _ (k := -17) (n := 17) (by kernel_rfl) (by omega) (by omega) _) ?_
        refine L_val rfl (x_move (by conv => lhs; whnf)) ?_
        refine L_enterQ rfl (x_call ok81) (f81_rot _ (k := -19) (n := 19) (by kernel_rfl) (by omega) (by omega) _) ?_
        refine L_val rfl (x_xor rfl rfl) ?_
        refine L_val rfl (x_move (by conv => lhs; whnf)) ?_
        refine L_val rfl (x_shr rfl rfl (by omega) rfl) ?_
        refine L_val rfl (x_xor rfl rfl) ?_
        refine L_val rfl (x_assign (by conv => lhs; whnf)) ?_
        refine L_nil ?_
        refine W_tail 15 mixed (by kernel_rfl) rfl ?_
        refine L_val rfl (x_move (by conv => lhs; whnf)) ?_
        refine L_val rfl (x_move (by conv => lhs; whnf)) ?_
        refine L_val rfl (x_sub rfl rfl (wr64 (c := ((((16 + i)) - 16 : Nat) : Int)) (by omega) (by omega) (by omega))) ?_
        refine L_val rfl (x_indexArr ar112 (i := ((16 + i)) - 16) rfl rfl (by omega)) ?_
        refine L_val rfl (x_load sc103 rfl (cell32 hW (i := ((16 + i)) - 16) (by omega) (by omega))) ?_
        refine L_val rfl (x_move (by conv => lhs; whnf)) ?_
        refine L_val rfl (x_add rfl rfl rfl) ?_
        refine L_val rfl (x_move (by conv => lhs; whnf)) ?_
        refine L_val rfl (x_sub rfl rfl (wr64 (c := ((((16 + i)) - 7 : Nat) : Int)) (by omega) (by omega) (by omega))) ?_
        refine L_val rfl (x_indexArr ar112 (i := ((16 + i)) - 7) rfl rfl (by omega)) ?_
        refine L_val rfl (x_load sc103 rfl (cell32 hW (i := ((16 + i)) - 7) (by omega) (by omega))) ?_
        refine L_val rfl (x_add rfl rfl rfl) ?_
        refine L_val rfl (x_move (by conv => lhs; whnf)) ?_
        refine L_val rfl (x_add rfl rfl rfl) ?_
        refine L_val rfl (x_indexArr ar112 (i := (16 + i)) rfl rfl (by omega)) ?_
        refine L_nil ?_
        refine L_store sz103 rfl rfl (by conv => lhs; whnf) rfl hW (by rw [L32_size]; omega) (fun w3 hb hc => ?_)
        refine L_nil ?_
        refine W_region rfl ?_
        refine L_val rfl (x_move (by conv => lhs; whnf)) ?_
        refine L_val rfl (x_add rfl rfl (wr64 (c := ((((16 + i)) + 1 : Nat) : Int)) (by omega) (by omega) (by omega))) ?_
        refine L_val rfl (x_assign (by conv => lhs; whnf)) ?_
        refine L_nil ?_
        rw [L32_set] at hb
        refine ⟨48 - (i + 1), by omega, i + 1, by omega, rfl, ⟨rfl, rfl, rfl, rfl, rfl, trivial⟩, ?_, hC2.d.d.same hc⟩
        rw [hb, show 0 + (16 + i) * 1 = 16 + i by omega, show 16 + i - 16 = i by omega, show 16 + i - 15 = i + 1 by omega, show 16 + i - 7 = i + 9 by omega, show 16 + i - 2 = i + 14 by omega]
        rfl
      · refine W_false (congrArg Value.bool (decide_eq_false (by omega))) ?_
        refine W_exit ?_
        refine W_seq ?_
        refine W_region rfl ?_
        refine L_val rfl (x_move (by conv => lhs; whnf)) ?_
        refine L_val rfl (x_nilCheck rfl) ?_
        refine L_val rfl (x_field fo_116_0 rfl) ?_
        refine L_val rfl (x_loadAgg (h1.map u32) ag104 rfl (by simp [hh1]) (fun j v hv => cell_at (hC2.at hD1 (by simp; omega)) (by simp [dig, List.getElem?_append]; simp at hv; rw [if_pos (by obtain ⟨x, hx, -⟩ := hv; exact (List.getElem?_eq_some_iff.1 hx).1)]; simpa using hv))) ?_
        refine L_alloc zero104 rfl (fun w3 hb3 hc3 hs3 => ?_)
        refine L_storeAll (cs := L32 h1) sz104 rfl rfl rfl (by rw [L32_size]; exact hh1) (L32_one _) hb3 rfl (fun w4 hb4 hc4 => ?_)
        refine L_nil ?_
        refine W_seq ?_
        refine W_seq ?_
        refine W_region rfl ?_
        refine L_val rfl (x_move (by conv => lhs; whnf)) ?_
        refine L_nil ?_
        refine W_block ?_
        have hi48 : i = 48 := by omega
        subst hi48
        rw [sched_any _ _ hws0] at hW
        have hK4 : w4.heap[wA.heap.size]? = some (.cells (L32 KS) 112 (0, 0)) := hc4.at (hc3.at ((hC2.at hK1 (by simp; omega))) (by simp)) (by simp; have := hC2.size; have := lt_of_at hK1; omega)
        have hW4 : w4.heap[wC.heap.size]? = some (.cells (L32 (sched (bs1.take 64) 48)) 112 (0, 0)) := hc4.at (hc3.at hW (by simp)) (by simp; have := lt_of_at hW; omega)
        have hD4 : w4.heap[bd]? = some (.cells (dig h1 rest n) 116 (0, 0)) := hc4.at (hc3.at (hC2.at hD1 (by simp; omega)) (by simp)) (by simp; have := hC2.size; have := lt_of_at hD1; omega)
        have hSl := sched_len (bs1.take 64) 48
        have hKl := KS_len
        have hC04 : Chg [bd] w w4 := ((hC1.trans hC2 (by simp; omega)).trans0 hc3).trans hc4 (by simp; have := hC1.size; have := hC2.size; omega)
        have hb12 : wC.heap.size < w2.heap.size := lt_of_at hW
        have hlt2 : bd < w2.heap.size := hC2.lt (lt_of_at hD1)
        generalize hq12 : w2.heap.size = b12 at *
        refine W_loop (fun m f w5 => ∃ i, i ≤ 64 ∧ m = 64 - i ∧ Frm f [(0, ptr bd 0), (1, .slice (some ⟨bb, ob, none⟩) bs1.length cap1), (4, ptr wA.heap.size 0), (5, ptr wC.heap.size 0), (12, ptr b12 0), (112, i64 (i : Nat))] ∧
            w5.heap[b12]? = some (.cells (L32 (rounds (bs1.take 64) h1 i)) 104 (0, 0)) ∧ Chg [b12] w4 w5) 64
          ⟨0, by omega, rfl, ⟨rfl, rfl, rfl, rfl, rfl, rfl, trivial⟩, hb4, Chg.refl _ _⟩ (fun m f w5 hI => ?_)
        clear hW hWl
        obtain ⟨i, hi, rfl, hF, hV, hC5⟩ := hI
        obtain ⟨g, rfl⟩ := hF.eta
        have hK := hC5.at hK4 (by simp; omega)
        have hW := hC5.at hW4 (by simp; omega)
        have hVl := rounds_len (bs1.take 64) h1 hh1 i
        refine W_seq ?_
        refine W_region rfl ?_
        refine L_val rfl (x_lss rfl rfl rfl) ?_
        refine L_nil ?_
        refine W_seq ?_
        by_cases hcond : i < 64
        · refine W_true (congrArg Value.bool (decide_eq_true (by omega))) ?_
          refine W_skip ?_
          refine W_seq ?_
          refine W_block ?_
          refine W_seq ?_
          refine W_region rfl ?_
          refine L_val rfl (x_move (by conv => lhs; whnf)) ?_
          refine L_val rfl (x_assign (by conv => lhs; whnf)) ?_
          refine L_nil ?_
          refine W_seq ?_
          refine W_still mixed (by kernel_rfl) rfl ?_
          refine L_val rfl (x_indexArr ar104 (i := 0) rfl rfl (by omega)) ?_
          refine L_val rfl (x_load sc103 rfl (cell32 hV (i := 0) (by omega) (by omega))) ?_
          refine L_val rfl (x_indexArr ar104 (i := 4) rfl rfl (by omega)) ?_
          refine L_val rfl (x_load sc103 rfl (cell32 hV (i := 4) (by omega) (by omega))) ?_
          refine L_val rfl (x_assign (by conv => lhs; whnf)) ?_
          refine L_val rfl (x_assign (by conv => lhs; whnf)) ?_
          refine L_nil ?_
          refine W_seq ?_
          refine W_region rfl ?_
          refine L_val rfl (x_move (by conv => lhs; whnf)) ?_
          refine L_enterQ rfl (x_call ok81) (f81_rot _ (k := -6) (n := 6) (by kernel_rfl) (by omega) (by omega) _) ?_
          refine L_val rfl (x_move (by conv => lhs; whnf)) ?_
          refine L_enterQ rfl (x_call ok81) (f81_rot _ (k := -11) (n := 11) (by kernel_rfl) (by omega) (by omega) _) ?_
          refine L_val rfl (x_xor rfl rfl) ?_
          refine L_val rfl (x_move (by conv => lhs; whnf)) ?_
          refine L_enterQ rfl (x_call ok81) (f81_rot _ (k := -25) (n := 25) (by kernel_rfl) (by omega) (by omega) _) ?_
          refine L_val rfl (x_xor rfl rfl) ?_
          refine L_val rfl (x_assign (by conv => lhs; whnf)) ?_
          refine L_nil ?_
          refine W_seq ?_
          refine W_still mixed (by kernel_rfl) rfl ?_
          refine L_val rfl (x_indexArr ar104 (i := 7) rfl rfl (by omega)) ?_
          refine L_val rfl (x_load sc103 rfl (cell32 hV (i := 7) (by omega) (by omega))) ?_
          refine L_val rfl (x_move (by conv => lhs; whnf)) ?_
          refine L_val rfl (x_add rfl rfl rfl) ?_
          refine L_val rfl (x_move (by conv => lhs; whnf)) ?_
          refine L_val rfl (x_indexArr ar104 (i := 5) rfl rfl (by omega)) ?_
          refine L_val rfl (x_load sc103 rfl (cell32 hV (i := 5) (by omega) (by omega))) ?_
          refine L_val rfl (x_and rfl rfl) ?_
          refine L_val rfl (x_move (by conv => lhs; whnf)) ?_
          refine L_val rfl (x_not32 rfl) ?_
          refine L_val rfl (x_indexArr ar104 (i := 6) rfl rfl (by omega)) ?_
          refine L_val rfl (x_load sc103 rfl (cell32 hV (i := 6) (by omega) (by omega))) ?_
          refine L_val rfl (x_and rfl rfl) ?_
          refine L_val rfl (x_xor rfl rfl) ?_
          refine L_val rfl (x_add rfl rfl rfl) ?_
          refine L_val rfl (x_move (by conv => lhs; whnf)) ?_
          refine L_val rfl (x_indexArr ar112 (i := i) rfl rfl (by omega)) ?_
          refine L_val rfl (x_load sc103 rfl (cell32 hK (i := i) (by omega) (by omega))) ?_
          refine L_val rfl (x_add rfl rfl rfl) ?_
          refine L_val rfl (x_move (by conv => lhs; whnf)) ?_
          refine L_val rfl (x_indexArr ar112 (i := i) rfl rfl (by omega)) ?_
          refine L_val rfl (x_load sc103 rfl (cell32 hW (i := i) (by omega) (by omega))) ?_
          refine L_val rfl (x_add rfl rfl rfl) ?_
          refine L_val rfl (x_assign (by conv => lhs; whnf)) ?_
          refine L_nil ?_
          refine W_seq ?_
          refine W_region rfl ?_
          refine L_val rfl (x_move (by conv => lhs; whnf)) ?_
          refine L_enterQ rfl (x_call ok81) (f81_rot _ (k := -2) (n := 2) (by kernel_rfl) (by omega) (by omega) _) ?_
          refine L_val rfl (x_move (by conv => lhs; whnf)) ?_
          refine L_enterQ rfl (x_call ok81) (f81_rot _ (k := -13) (n := 13) (by kernel_rfl) (by omega) (by omega) _) ?_
          refine L_val rfl (x_xor rfl rfl) ?_
          refine L_val rfl (x_move (by conv => lhs; whnf)) ?_
          refine L_enterQ rfl (x_call ok81) (f81_rot _ (k := -22) (n := 22) (by kernel_rfl) (by omega) (by omega) _) ?_
          refine L_val rfl (x_xor rfl rfl) ?_
          refine L_val rfl (x_assign (by conv => lhs; whnf)) ?_
          refine L_nil ?_
          refine W_seq ?_
          refine W_region rfl ?_
          refine L_val rfl (x_move (by conv => lhs; whnf)) ?_
          refine L_val rfl (x_move (by conv => lhs; whnf)) ?_
          refine L_val rfl (x_indexArr ar104 (i := 1) rfl rfl (by omega)) ?_
          refine L_val rfl (x_load sc103 rfl (cell32 hV (i := 1) (by omega) (by omega))) ?_
          refine L_val rfl (x_and rfl rfl) ?_
          refine L_val rfl (x_move (by conv => lhs; whnf)) ?_
          refine L_val rfl (x_indexArr ar104 (i := 2) rfl rfl (by omega)) ?_
          refine L_val rfl (x_load sc103 rfl (cell32 hV (i := 2) (by omega) (by omega))) ?_
          refine L_val rfl (x_and rfl rfl) ?_
          refine L_val rfl (x_xor rfl rfl) ?_
          refine L_val rfl (x_indexArr ar104 (i := 1) rfl rfl (by omega)) ?_
          refine L_val rfl (x_load sc103 rfl (cell32 hV (i := 1) (by omega) (by omega))) ?_
          refine L_val rfl (x_indexArr ar104 (i := 2) rfl rfl (by omega)) ?_
          refine L_val rfl (x_load sc103 rfl (cell32 hV (i := 2) (by omega) (by omega))) ?_
          refine L_val rfl (x_and rfl rfl) ?_
          refine L_val rfl (x_xor rfl rfl) ?_
          refine L_val rfl (x_add rfl rfl rfl) ?_
          refine L_val rfl (x_assign (by conv => lhs; whnf)) ?_
          refine L_nil ?_
          refine W_region rfl ?_
          refine L_val rfl (x_indexArr ar104 (i := 6) rfl rfl (by omega)) ?_
          refine L_val rfl (x_load sc103 rfl (cell32 hV (i := 6) (by omega) (by omega))) ?_
          refine L_val rfl (x_indexArr ar104 (i := 5) rfl rfl (by omega)) ?_
          refine L_val rfl (x_load sc103 rfl (cell32 hV (i := 5) (by omega) (by omega))) ?_
          refine L_val rfl (x_indexArr ar104 (i := 4) rfl rfl (by omega)) ?_
          refine L_val rfl (x_load sc103 rfl (cell32 hV (i := 4) (by omega) (by omega))) ?_
          refine L_val rfl (x_indexArr ar104 (i := 3) rfl rfl (by omega)) ?_
          refine L_val rfl (x_load sc103 rfl (cell32 hV (i := 3) (by omega) (by omega))) ?_
          refine L_val rfl (x_move (by conv => lhs; whnf)) ?_
          refine L_val rfl (x_add rfl rfl rfl) ?_
          refine L_val rfl (x_indexArr ar104 (i := 2) rfl rfl (by omega)) ?_
          refine L_val rfl (x_load sc103 rfl (cell32 hV (i := 2) (by omega) (by omega))) ?_
          refine L_val rfl (x_indexArr ar104 (i := 1) rfl rfl (by omega)) ?_
          refine L_val rfl (x_load sc103 rfl (cell32 hV (i := 1) (by omega) (by omega))) ?_
          refine L_val rfl (x_indexArr ar104 (i := 0) rfl rfl (by omega)) ?_
          refine L_val rfl (x_load sc103 rfl (cell32 hV (i := 0) (by omega) (by omega))) ?_
          refine L_val rfl (x_move (by conv => lhs; whnf)) ?_
          refine L_val rfl (x_move (by conv => lhs; whnf)) ?_
          refine L_val rfl (x_add rfl rfl rfl) ?_
          refine L_val rfl (x_indexArr ar104 (i := 7) rfl rfl (by omega)) ?_
          refine L_store sz103 rfl rfl (by conv => lhs; whnf) rfl hV (by rw [L32_size]; simp; omega) (fun w57 hb hc => ?_)
          rw [L32_set] at hb
          have hV7_7 := hb
          have hC5_7 := hC5.d.d.same hc
          clear hb hc
          refine L_val rfl (x_indexArr ar104 (i := 6) rfl rfl (by omega)) ?_
          refine L_store sz103 rfl rfl (by conv => lhs; whnf) rfl hV7_7 (by rw [L32_size]; simp; omega) (fun w56 hb hc => ?_)
          rw [L32_set] at hb
          have hV7_6 := hb
          have hC5_6 := hC5_7.same hc
          clear hb hc
          refine L_val rfl (x_indexArr ar104 (i := 5) rfl rfl (by omega)) ?_
          refine L_store sz103 rfl rfl (by conv => lhs; whnf) rfl hV7_6 (by rw [L32_size]; simp; omega) (fun w55 hb hc => ?_)
          rw [L32_set] at hb
          have hV7_5 := hb
          have hC5_5 := hC5_6.same hc
          clear hb hc
          refine L_val rfl (x_indexArr ar104 (i := 4) rfl rfl (by omega)) ?_
          refine L_store sz103 rfl rfl (by conv => lhs; whnf) rfl hV7_5 (by rw [L32_size]; simp; omega) (fun w54 hb hc => ?_)
          rw [L32_set] at hb
          have hV7_4 := hb
          have hC5_4 := hC5_5.same hc
          clear hb hc
          refine L_val rfl (x_indexArr ar104 (i := 3) rfl rfl (by omega)) ?_
          refine L_store sz103 rfl rfl (by conv => lhs; whnf) rfl hV7_4 (by rw [L32_size]; simp; omega) (fun w53 hb hc => ?_)
          rw [L32_set] at hb
          have hV7_3 := hb
          have hC5_3 := hC5_4.same hc
          clear hb hc
          refine L_val rfl (x_indexArr ar104 (i := 2) rfl rfl (by omega)) ?_
          refine L_store sz103 rfl rfl (by conv => lhs; whnf) rfl hV7_3 (by rw [L32_size]; simp; omega) (fun w52 hb hc => ?_)
          rw [L32_set] at hb
          have hV7_2 := hb
          have hC5_2 := hC5_3.same hc
          clear hb hc
          refine L_val rfl (x_indexArr ar104 (i := 1) rfl rfl (by omega)) ?_
          refine L_store sz103 rfl rfl (by conv => lhs; whnf) rfl hV7_2 (by rw [L32_size]; simp; omega) (fun w51 hb hc => ?_)
          rw [L32_set] at hb
          have hV7_1 := hb
          have hC5_1 := hC5_2.same hc
          clear hb hc
          refine L_val rfl (x_indexArr ar104 (i := 0) rfl rfl (by omega)) ?_
          refine L_store sz103 rfl rfl (by conv => lhs; whnf) rfl hV7_1 (by rw [L32_size]; simp; omega) (fun w50 hb hc => ?_)
          rw [L32_set] at hb
          have hV7_0 := hb
          have hC5_0 := hC5_1.same hc
          clear hb hc
          have hV8 : w50.heap[b12]? = some (.cells (L32 (rounds (bs1.take 64) h1 (i + 1))) 104 (0, 0)) := by
            rw [hV7_0]
            refine congrArg (fun l => some (Obj.cells (L32 l) 104 (0, 0))) ?_
            obtain ⟨v0, v1, v2, v3, v4, v5, v6, v7, hv⟩ : ∃ v0 v1 v2 v3 v4 v5 v6 v7, rounds (bs1.take 64) h1 i = [v0, v1, v2, v3, v4, v5, v6, v7] := by
              match rounds (bs1.take 64) h1 i, hVl with
              | [v0, v1, v2, v3, v4, v5, v6, v7], _ => exact ⟨_, _, _, _, _, _, _, _, rfl⟩
            have : rounds (bs1.take 64) h1 (i + 1) = rnd (sched (bs1.take 64) 48) i (rounds (bs1.take 64) h1 i) := rfl
            rw [this, hv]
            rfl
          have hC58 := hC5_0
          refine L_nil ?_
          refine W_region rfl ?_
          refine L_val rfl (x_add rfl rfl (wr64 (c := ((i + 1 : Nat) : Int)) (by omega) (by omega) (by omega))) ?_
          refine L_val rfl (x_move (by conv => lhs; whnf)) ?_
          refine L_nil ?_
          exact ⟨64 - (i + 1), by omega, i + 1, by omega, rfl, ⟨rfl, rfl, rfl, rfl, rfl, rfl, trivial⟩, hV8, hC58⟩
        · refine W_false (congrArg Value.bool (decide_eq_false (by omega))) ?_
          refine W_exit ?_
          refine W_seq ?_
          refine W_region rfl ?_
          refine L_val rfl (x_move (by conv => lhs; whnf)) ?_
          refine L_nil ?_
          refine W_block ?_
          have hi64 : i = 64 := by omega
          subst hi64
          refine W_loop (fun m f w6 => ∃ i, i ≤ 8 ∧ m = 8 - i ∧ Frm f [(0, ptr bd 0), (1, .slice (some ⟨bb, ob, none⟩) bs1.length cap1), (4, ptr wA.heap.size 0), (5, ptr wC.heap.size 0), (12, ptr b12 0), (203, i64 (i : Nat))] ∧
              w6.heap[bd]? = some (.cells (dig (iter (addH (rounds (bs1.take 64) h1 64)) i h1) rest n) 116 (0, 0)) ∧ Chg [bd] w5 w6) 8
            ⟨0, by omega, rfl, ⟨rfl, rfl, rfl, rfl, rfl, rfl, trivial⟩, hC5.at hD4 (by simp; omega), Chg.refl _ _⟩ (fun m f w6 hI => ?_)
          obtain ⟨i, hi, rfl, hF, hD, hC6⟩ := hI
          obtain ⟨g, rfl⟩ := hF.eta
          have hV5 := hV
          have hV := hC6.at hV5 (by simp; omega)
          have hDl := addN_len (rounds (bs1.take 64) h1 64) h1 i
          refine W_seq ?_
          refine W_region rfl ?_
          refine L_val rfl (x_lss rfl rfl rfl) ?_
          refine L_nil ?_
          refine W_seq ?_
          by_cases hcond : i < 8
          · refine W_true (congrArg Value.bool (decide_eq_true (by omega))) ?_
            refine W_skip ?_
            refine W_seq ?_
            refine W_block ?_
            refine W_seq ?_
            refine W_region rfl ?_
            refine L_val rfl (x_move (by conv => lhs; whnf)) ?_
            refine L_val rfl (x_assign (by conv => lhs; whnf)) ?_
            refine L_nil ?_
            refine W_tail 13 mixed (by kernel_rfl) rfl ?_
            refine L_val rfl (x_move (by conv => lhs; whnf)) ?_
            refine L_val rfl (x_move (by conv => lhs; whnf)) ?_
            refine L_val rfl (x_nilCheck rfl) ?_
            refine L_val rfl (x_field fo_116_0 rfl) ?_
            refine L_val rfl (x_indexArr ar104 (i := i) rfl rfl (by omega)) ?_
            refine L_val rfl (x_load sc103 rfl (cellH hD (i := i) (by omega) (by omega))) ?_
            refine L_val rfl (x_move (by conv => lhs; whnf)) ?_
            refine L_val rfl (x_indexArr ar104 (i := i) rfl rfl (by omega)) ?_
            refine L_val rfl (x_load sc103 rfl (cell32 hV (i := i) (by omega) (by omega))) ?_
            refine L_val rfl (x_add rfl rfl rfl) ?_
            refine L_val rfl (x_nilCheck rfl) ?_
            refine L_val rfl (x_field fo_116_0 rfl) ?_
            refine L_val rfl (x_indexArr ar104 (i := i) rfl rfl (by omega)) ?_
            refine L_nil ?_
            refine L_store sz103 rfl rfl (by conv => lhs; whnf) rfl hD (by rw [dig_size (by omega) hr]; omega) (fun w7 hb hc => ?_)
            refine L_nil ?_
            refine W_region rfl ?_
            refine L_val rfl (x_add rfl rfl (wr64 (c := ((i + 1 : Nat) : Int)) (by omega) (by omega) (by omega))) ?_
            refine L_val rfl (x_move (by conv => lhs; whnf)) ?_
            refine L_nil ?_
            rw [show 0 + 0 + i * 1 = i by omega, dig_setH (by omega)] at hb
            exact ⟨8 - (i + 1), by omega, i + 1, by omega, rfl, ⟨rfl, rfl, rfl, rfl, rfl, rfl, trivial⟩, hb, hC6.d.same hc⟩
          · refine W_false (congrArg Value.bool (decide_eq_false (by omega))) ?_
            refine W_exit ?_
            refine W_region rfl ?_
            refine L_val rfl (x_move (by conv => lhs; whnf)) ?_
            refine L_val rfl (x_sliceL el37 (l := 64) rfl rfl (by omega)) ?_
            refine L_val rfl (x_assign (by conv => lhs; whnf)) ?_
            refine L_nil ?_
            have hi8 : i = 8 := by omega
            subst hi8
            have hC16 : Chg [bd] w w6 := (hC04.trans hC5 (by simp; have := hC1.size; omega)).same hC6
            exact ⟨(bs1.drop 64).length, by rw [List.length_drop]; omega, compress h1 (bs1.take 64), _, bs1.drop 64, rfl, ⟨rfl, rfl, rfl, rfl, trivial⟩, compress_len _ _ hh1, hD, hC6.at (hC5.at hK4 (by simp; omega)) (by simp; omega),
              ⟨_, hSl, hC6.at hW (by simp; omega)⟩, hC16, hS1.drop rfl (by omega), by rw [← hB1, ← blocks_ge (by omega)]⟩
  · refine W_false (congrArg Value.bool (decide_eq_false (by omega))) ?_
    refine W_exit ?_
    simp only [Nat.beq_refl, cond_true]
    exact res0 rfl ⟨by rw [hD1, ← hB1, blocks_lt (by omega)], hC1⟩

end Go.Proofs.Ytinoebjhcmeppaa
