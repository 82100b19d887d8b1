/- The walk of the document's own SHA-256 of bytes. -/
import Derived.Test.YtinoebjhcmeppaaRefB
namespace Go.Proofs.Ytinoebjhcmeppaa
open E Sha
set_option maxRecDepth 100000
set_option maxHeartbeats 4000000

theorem and3 {i : Nat} (h : i < 32) : bits .and .i64 ((i : Nat) : Int) 3 = ((i % 4 : Nat) : Int) := by
  have : ∀ j : Fin 32, bits .and .i64 ((j.val : Nat) : Int) 3 = ((j.val % 4 : Nat) : Int) := by decide
  exact this ⟨i, h⟩
def outL (h : List Int) (i : Nat) : List Int := (List.range i).map (outB h) ++ List.replicate (32 - i) 0
theorem outL_len (h : List Int) {i : Nat} (hi : i ≤ 32) : (outL h i).length = 32 := by simp [outL]; omega
theorem outL_set (h : List Int) {i : Nat} (hi : i < 32) : (outL h i).set i (outB h i) = outL h (i + 1) := by
  unfold outL
  rw [show 32 - i = (32 - (i + 1)) + 1 by omega, List.replicate_succ, List.range_succ, List.set_append]
  simp
theorem be64_len (n : Int) (j : Nat) : (be64 n j).length = j := by simp [be64]
theorem own_push {w w3 : World} {base : Nat} {v v' : Value} {bs : List Int} {c : Int} {w2 : World} (ha : Appended base 5 v (bs.map u8 ++ [u8 c]) w2 v' w3) (hw : w.heap.size = base) : OwnB w w3 v' (bs ++ [c]) := by
  subst hw
  have h := ha.own
  rw [show bs.map u8 ++ [u8 c] = (bs ++ [c]).map u8 by simp, List.length_map] at h
  exact h

theorem f48_sum {w : World} {x : Value} {ys : List Int} (hx : Bt w x ys) (hlen : ys.length ≤ 68719476736) :
    Calls Try.prog 48 #[x] w (Rv fun v w' => v = .agg (L8 (sha ys)) ∧ Chg [] w w') := by
  have hmx := max_big
  have hmx2 : maxLen ≤ 9223372036854775807 := by decide
  obtain ⟨ax, capx, rfl⟩ := hx.is
  refine calls_W (args := [.slice ax ys.length capx]) Try.func48 rfl Try.ntmps48 rfl ?_
  refine W_seq ?_
  refine W_region rfl ?_
  refine L_alloc zero93 rfl (fun w1 hb1 hc1 hs1 => ?_)
  refine L_nil ?_
  refine W_seq ?_
  refine W_region rfl ?_
  refine L_none e1_37 rfl (fun w2 hb2 hc2 hs2 => ?_)
  refine L_val rfl (x_move (by conv => lhs; whnf)) ?_
  have hC2 : Chg [] w w2 := hc1.trans0 hc2
  have hown2 : w2.ownsRow w.heap.size 5 1 (.slice (some ⟨w1.heap.size, 0, none⟩) 0 0) 0 [] := owns_block hb2 (by omega) rfl rfl (by decide)
  refine L_append (base := w.heap.size) (n := 0) (xs := []) (v := .slice (some ⟨w1.heap.size, 0, none⟩) 0 0) e1_37 rfl rfl rfl hown2 (hx.chg0 hC2) (fun u hu => by simp only [List.mem_map] at hu; obtain ⟨z, _, rfl⟩ := hu; rfl) (by simp only [List.length_map]; omega) (by simp only [List.length_map]; omega) hC2.size (fun v3 w3 ha3 => ?_)
  have ho3 : OwnB w w3 v3 ys := by have h := ha3.own; rw [List.nil_append, List.length_map] at h; exact h
  have hC3 : Chg [] w w3 := hC2.out ha3.chg (fun k hk => own_new hown2 k hk)
  refine L_one e1_37 rfl (by conv => lhs; whnf) rfl (fun w4 hb4 hc4 hs4 => ?_)
  refine L_append e1_37 rfl rfl rfl (own_chg ho3 hc4 (by simp)) (Rw.one hb4) (fun u hu => by rw [List.mem_singleton.1 hu]; rfl) (by simp; omega) (by simp; omega) (by have := hC3.size; omega) (fun v5 w5 ha5 => ?_)
  have ho5 : OwnB w w5 v5 (ys ++ [128]) := own_push ha5 rfl
  have hC5 : Chg [] w w5 := (hC3.trans0 hc4).out ha5.chg (fun k hk => own_new ho3 k hk)
  have h25 : w5.heap[w.heap.size]? = some (.cells (L8 (List.replicate 32 0)) 93 (0, 0)) := by
    refine ha5.chg.at (hc4.at (ha3.chg.at (hc2.at hb1 (by simp)) (by simp [Value.ownBlock]; omega)) (by simp)) (own_ne (e := 5) (hc4.at (ha3.chg.at (hc2.at hb1 (by simp)) (by simp [Value.ownBlock]; omega)) (by simp)) (by decide) (own_chg ho3 hc4 (by simp)))
  refine L_val rfl (x_assign (v := v5) rfl) ?_
  refine L_nil ?_
  refine W_seq ?_
  refine W_block ?_
  have hz : zeros ys.length = (119 - ys.length % 64) % 64 := rfl
  generalize hq2 : w.heap.size = b2 at *
  refine W_loop (fun m f w6 => ∃ j v, j ≤ zeros ys.length ∧ m = zeros ys.length - j ∧ Frm f [(0, .slice ax ys.length capx), (2, ptr b2 0), (3, v)] ∧ OwnB w w6 v (ys ++ [128] ++ List.replicate j 0) ∧ Chg [] w w6 ∧ w6.heap[b2]? = some (.cells (L8 (List.replicate 32 0)) 93 (0, 0))) (zeros ys.length)
    ⟨0, v5, by omega, rfl, ⟨rfl, rfl, rfl, trivial⟩, by simpa using ho5, hC5, h25⟩ (fun m f w6 hI => ?_)
  clear hb1 hc1 hb2 hc2 ho3 ha3 hb4 hc4 ho5 hC5 h25 ha5 hC2 hC3
  obtain ⟨j, v, hj, rfl, hF, ho, hc6, h26⟩ := hI
  obtain ⟨g, rfl⟩ := hF.eta
  have hlj : (ys ++ [128] ++ List.replicate j 0).length = ys.length + 1 + j := by simp; omega
  obtain ⟨a6, cap6, rfl⟩ := own_slice ho
  refine W_seq ?_
  refine W_seq ?_
  refine W_region rfl ?_
  refine L_val rfl (x_move (by conv => lhs; whnf)) ?_
  refine L_val rfl (x_len el37 rfl) ?_
  refine L_val rfl (x_rem rfl rfl (by decide) (tm (c := (((ys.length + 1 + j) % 64 : Nat) : Int)) (by omega) (by omega) (by omega))) ?_
  refine L_val rfl (x_neq rfl rfl rfl) ?_
  refine L_nil ?_
  by_cases hcond : j < zeros ys.length
  · refine W_true (congrArg (fun x => Value.bool !x) (decide_eq_false (by omega))) ?_
    refine W_skip ?_
    refine W_block ?_
    refine W_region rfl ?_
    refine L_val rfl (x_move (by conv => lhs; whnf)) ?_
    refine L_one e1_37 rfl (by conv => lhs; whnf) rfl (fun w7 hb7 hc7 hs7 => ?_)
    refine L_append e1_37 rfl rfl rfl (own_chg ho hc7 (by simp)) (Rw.one hb7) (fun u hu => by rw [List.mem_singleton.1 hu]; rfl) (by simp only [List.length_singleton]; omega) (by simp only [List.length_singleton]; omega) (by have := hc6.size; omega) (fun v8 w8 ha8 => ?_)
    have ho8 := own_push ha8 rfl
    refine L_val rfl (x_assign (v := v8) rfl) ?_
    refine L_nil ?_
    refine ⟨zeros ys.length - (j + 1), by omega, j + 1, v8, by omega, rfl, ⟨rfl, rfl, rfl, trivial⟩, ?_, (hc6.trans0 hc7).out ha8.chg (fun k hk => by rw [hq2]; exact hq2 ▸ own_new ho k hk), ha8.chg.at (hc7.at h26 (by simp)) (own_ne (e := 5) (hc7.at h26 (by simp)) (by decide) (own_chg ho hc7 (by simp)))⟩
    rw [show List.replicate (j + 1) (0 : Int) = List.replicate j 0 ++ [0] from List.replicate_succ', ← List.append_assoc]
    exact ho8
  · refine W_false (congrArg (fun x => Value.bool !x) (decide_eq_true (by omega))) ?_
    refine W_exit ?_
    have hjz : j = zeros ys.length := by omega
    subst hjz
    refine W_seq ?_
    refine W_region rfl ?_
    refine L_val rfl (x_move (by conv => lhs; whnf)) ?_
    refine L_val rfl (x_len el37 rfl) ?_
    refine L_val rfl (x_conv kd3 kd73 rfl (wru64 (c := ((ys.length : Nat) : Int)) (by omega) (by omega) (by omega))) ?_
    refine L_val rfl (x_mul rfl rfl rfl) ?_
    refine L_val rfl (x_assign (by conv => lhs; whnf)) ?_
    refine L_nil ?_
    refine W_seq ?_
    refine W_seq ?_
    refine W_region rfl ?_
    refine L_val rfl (x_assign (by conv => lhs; whnf)) ?_
    refine L_nil ?_
    refine W_block ?_
    refine W_loop (fun m f w6 => ∃ j v, j ≤ 8 ∧ m = 8 - j ∧ Frm f [(2, ptr b2 0), (3, v), (4, u64 (IntKind.u64.wrap (((ys.length : Nat) : Int) * 8))), (5, i64 (7 - (j : Nat)))] ∧ OwnB w w6 v (ys ++ [128] ++ List.replicate (zeros ys.length) 0 ++ be64 ys.length j) ∧ Chg [] w w6 ∧ w6.heap[b2]? = some (.cells (L8 (List.replicate 32 0)) 93 (0, 0))) 8
      ⟨0, _, by omega, rfl, ⟨rfl, rfl, rfl, rfl, trivial⟩, by simpa [be64] using ho, hc6, h26⟩ (fun m f w6 hI => ?_)
    clear ho hc6 h26
    obtain ⟨j, v, hj, rfl, hF, ho, hc6, h26⟩ := hI
    obtain ⟨g, rfl⟩ := hF.eta
    refine W_seq ?_
    refine W_seq ?_
    refine W_region rfl ?_
    refine L_val rfl (x_move (by conv => lhs; whnf)) ?_
    refine L_val rfl (x_geq rfl rfl rfl) ?_
    refine L_nil ?_
    by_cases hcond : j < 8
    · refine W_true (congrArg Value.bool (decide_eq_true (by omega))) ?_
      refine W_skip ?_
      refine W_seq ?_
      refine W_block ?_
      refine W_region rfl ?_
      refine L_val rfl (x_move (v := v) rfl) ?_
      refine L_val rfl (x_move (by conv => lhs; whnf)) ?_
      refine L_val rfl (x_move (by conv => lhs; whnf)) ?_
      refine L_val rfl (x_mul rfl rfl (wr64 (c := ((56 - 8 * j : Nat) : Int)) (by omega) (by omega) (by omega))) ?_
      refine L_val rfl (x_conv kd3 kd36 rfl (wru64 (c := ((56 - 8 * j : Nat) : Int)) (by omega) (by omega) (by omega))) ?_
      refine L_val rfl (x_shr (c := (IntKind.u64.wrap (((ys.length : Nat) : Int) * 8)).fdiv (2 ^ (56 - 8 * j))) rfl rfl (by omega) (by rw [show min ((56 - 8 * j : Nat) : Int).toNat IntKind.u64.bits = 56 - 8 * j by simp [IntKind.bits]; omega])) ?_
      refine L_val rfl (x_conv kd73 kd5 rfl rfl) ?_
      refine L_one e1_37 rfl (by conv => lhs; whnf) rfl (fun w7 hb7 hc7 hs7 => ?_)
      refine L_append e1_37 rfl rfl rfl (own_chg ho hc7 (by simp)) (Rw.one hb7) (fun u hu => by rw [List.mem_singleton.1 hu]; rfl) (by simp only [List.length_singleton, List.length_append, be64_len, List.length_replicate]; omega) (by simp only [List.length_singleton, List.length_append, be64_len, List.length_replicate]; omega) (by have := hc6.size; omega) (fun v8 w8 ha8 => ?_)
      have ho8 := own_push ha8 rfl
      refine L_val rfl (x_assign (v := v8) rfl) ?_
      refine L_nil ?_
      refine W_region rfl ?_
      refine L_val rfl (x_move (by conv => lhs; whnf)) ?_
      refine L_val rfl (x_sub rfl rfl (wr64 (c := 7 - ((j + 1 : Nat) : Int)) (by omega) (by omega) (by omega))) ?_
      refine L_val rfl (x_assign (by conv => lhs; whnf)) ?_
      refine L_nil ?_
      refine ⟨8 - (j + 1), by omega, j + 1, v8, by omega, rfl, ⟨rfl, rfl, rfl, rfl, trivial⟩, ?_, (hc6.trans0 hc7).out ha8.chg (fun k hk => by rw [hq2]; exact hq2 ▸ own_new ho k hk), ha8.chg.at (hc7.at h26 (by simp)) (own_ne (e := 5) (hc7.at h26 (by simp)) (by decide) (own_chg ho hc7 (by simp)))⟩
      rw [be64_succ, ← List.append_assoc]
      exact ho8
    · refine W_false (congrArg Value.bool (decide_eq_false (by omega))) ?_
      refine W_exit ?_
      have hj8 : j = 8 := by omega
      subst hj8
      have hpad : ys ++ [128] ++ List.replicate (zeros ys.length) 0 ++ be64 ys.length 8 = ys ++ pad ys.length := by simp [pad]
      rw [hpad] at ho
      have hpl := pad_len ys.length
      have hpl2 : (pad ys.length).length = 1 + zeros ys.length + 8 := by simp [pad, be64_len]; omega
      have hsl : (ys ++ pad ys.length).length = ys.length + (pad ys.length).length := List.length_append
      have hsha : sha ys = out (blocks H0 (ys ++ pad ys.length)) := rfl
      rw [hsha]
      generalize ys ++ pad ys.length = s at *
      refine W_seq ?_
      refine W_region rfl ?_
      refine L_val rfl (x_build rfl (run_build w6 _ _ (L32 H0) (by kernel_rfl))) ?_
      refine L_alloc zero104 rfl (fun w7 hb7 hc7 hs7 => ?_)
      refine L_storeAll sz104 rfl rfl rfl rfl (L32_one _) hb7 rfl (fun w8 hb8 hc8 => ?_)
      refine L_nil ?_
      have hs6 := hc6.size
      have hC8 : Chg [] w w8 := (hc6.trans0 hc7).out hc8 (by simp; omega)
      have hb2lt : b2 < w6.heap.size := lt_of_at h26
      have h28 : w8.heap[b2]? = some (.cells (L8 (List.replicate 32 0)) 93 (0, 0)) := hc8.at (hc7.at h26 (by simp)) (by simp; omega)
      have ho8 : OwnB w w8 v s := own_chg (own_chg ho hc7 (by simp)) hc8 (fun b hb => by have := (ho.lt b hb).2; simp; omega)
      obtain ⟨bs, os, caps, rfl, _, _, _⟩ := (ho8.bt).some (by omega)
      generalize hq6 : w6.heap.size = b6 at *
      refine W_seq ?_
      refine W_seq ?_
      refine W_region rfl ?_
      refine L_val rfl (x_assign (by conv => lhs; whnf)) ?_
      refine L_nil ?_
      refine W_block ?_
      refine W_loop (fun m f w9 => ∃ i h, 64 * i ≤ s.length ∧ m = s.length / 64 - i ∧ Frm f [(2, ptr b2 0), (3, .slice (some ⟨bs, os, none⟩) s.length caps), (6, ptr b6 0), (7, i64 ((64 * i : Nat) : Int))] ∧ h.length = 8 ∧ blocks h (s.drop (64 * i)) = blocks H0 s ∧
          w9.heap[b6]? = some (.cells (L32 h) 104 (0, 0)) ∧ Chg [b6] w8 w9) (s.length / 64)
        ⟨0, H0, by omega, rfl, ⟨rfl, rfl, rfl, rfl, trivial⟩, rfl, by simp, hb8, Chg.refl _ _⟩ (fun m f w9 hI => ?_)
      obtain ⟨i, h, hi, rfl, hF, hh, hbl, h69, hc9⟩ := hI
      obtain ⟨g, rfl⟩ := hF.eta
      have hC9 : Chg [] w w9 := hC8.out hc9 (by simp; omega)
      refine W_seq ?_
      refine W_seq ?_
      refine W_region rfl ?_
      refine L_val rfl (x_move (by conv => lhs; whnf)) ?_
      refine L_val rfl (x_move (by conv => lhs; whnf)) ?_
      refine L_val rfl (x_len el37 rfl) ?_
      refine L_val rfl (x_lss rfl rfl rfl) ?_
      refine L_nil ?_
      have ho9 : OwnB w w9 (.slice (some ⟨bs, os, none⟩) s.length caps) s := own_chg ho8 hc9 (fun b hb => by have := (ho.lt b hb).2; simp; omega)
      by_cases hcond : 64 * i < s.length
      · refine W_true (congrArg Value.bool (decide_eq_true (by omega))) ?_
        refine W_skip ?_
        refine W_seq ?_
        refine W_block ?_
        refine W_region rfl ?_
        refine L_val rfl (x_loadRow ag104 rfl h69 (by rw [L32_size]; exact hh)) ?_
        refine L_val rfl (x_move (by conv => lhs; whnf)) ?_
        refine L_val rfl (x_move (by conv => lhs; whnf)) ?_
        refine L_call rfl (x_call ok58) (f58_block ho9.bt hh (by omega)) (fun v10 w10 ⟨hv10, hc10⟩ => ?_)
        subst hv10
        refine L_storeAll sz104 rfl rfl rfl (by rw [L32_size]; exact compress_len _ _ hh) (L32_one _) (hc10.at h69 (by simp)) (by rw [L32_size]; exact hh) (fun w11 hb11 hc11 => ?_)
        refine L_nil ?_
        refine W_region rfl ?_
        refine L_val rfl (x_move (by conv => lhs; whnf)) ?_
        refine L_val rfl (x_add rfl rfl (wr64 (c := ((64 * (i + 1) : Nat) : Int)) (by omega) (by omega) (by omega))) ?_
        refine L_val rfl (x_assign (by conv => lhs; whnf)) ?_
        refine L_nil ?_
        refine ⟨s.length / 64 - (i + 1), by omega, i + 1, _, by omega, rfl, ⟨rfl, rfl, rfl, rfl, trivial⟩, compress_len _ _ hh, ?_, hb11, (hc9.trans0 hc10).same hc11⟩
        rw [← hbl, blocks_ge (bs := s.drop (64 * i)) (by rw [List.length_drop]; omega), List.drop_drop]
        rfl
      · refine W_false (congrArg Value.bool (decide_eq_false (by omega))) ?_
        refine W_exit ?_
        have hdr : s.drop (64 * i) = [] := List.drop_eq_nil_of_le (by omega)
        rw [hdr, blocks_lt (by simp)] at hbl
        subst hbl
        refine W_seq ?_
        refine W_region rfl ?_
        refine L_alloc zero93 rfl (fun w10 hb10 hc10 hs10 => ?_)
        refine L_nil ?_
        refine W_seq ?_
        refine W_seq ?_
        refine W_region rfl ?_
        refine L_val rfl (x_assign (by conv => lhs; whnf)) ?_
        refine L_nil ?_
        refine W_block ?_
        have hlt6 : b6 < w9.heap.size := lt_of_at h69
        have h29 : w9.heap[b2]? = some (.cells (L8 (List.replicate 32 0)) 93 (0, 0)) := hc9.at h28 (by simp; omega)
        have hs9 := hC9.size
        have h610 := hc10.at h69 (by simp)
        generalize hq8 : w9.heap.size = b8 at *
        refine W_loop (fun m f w11 => ∃ i, i ≤ 32 ∧ m = 32 - i ∧ Frm f [(2, ptr b2 0), (6, ptr b6 0), (8, ptr b8 0), (9, i64 (i : Nat))] ∧ w11.heap[b8]? = some (.cells (L8 (outL (blocks H0 s) i)) 93 (0, 0)) ∧ Chg [b8] w10 w11) 32
          ⟨0, by omega, rfl, ⟨rfl, rfl, rfl, rfl, trivial⟩, hb10, Chg.refl _ _⟩ (fun m f w11 hI => ?_)
        obtain ⟨i, hi, rfl, hF, h8, hc11⟩ := hI
        obtain ⟨g, rfl⟩ := hF.eta
        have h611 := hc11.at h610 (by simp; omega)
        have hol := outL_len (blocks H0 s) hi
        refine W_seq ?_
        refine W_seq ?_
        refine W_region rfl ?_
        refine L_val rfl (x_move (by conv => lhs; whnf)) ?_
        refine L_val rfl (x_lss rfl rfl rfl) ?_
        refine L_nil ?_
        by_cases hcond : i < 32
        · refine W_true (congrArg Value.bool (decide_eq_true (by omega))) ?_
          refine W_skip ?_
          refine W_seq ?_
          refine W_block ?_
          refine W_region rfl ?_
          refine L_val rfl (x_move (by conv => lhs; whnf)) ?_
          refine L_val rfl (x_move (by conv => lhs; whnf)) ?_
          refine L_val rfl (x_quo rfl rfl (by omega) (quo64 (c := ((i / 4 : Nat) : Int)) (by omega) (by omega) (by omega) (by omega))) ?_
          refine L_val rfl (x_indexArr ar104 (i := i / 4) rfl rfl (by omega)) ?_
          refine L_val rfl (x_load sc103 rfl (cell32 h611 (i := i / 4) (by omega) (by omega))) ?_
          refine L_val rfl (x_move (by conv => lhs; whnf)) ?_
          refine L_val rfl (x_and rfl rfl) ?_
          refine L_val rfl (x_mul (c := ((8 * (i % 4) : Nat) : Int)) rfl rfl (by rw [and3 hcond]; exact wr64 (by omega) (by omega) (by omega))) ?_
          refine L_val rfl (x_sub rfl rfl (wr64 (c := ((24 - 8 * (i % 4) : Nat) : Int)) (by omega) (by omega) (by omega))) ?_
          refine L_val rfl (x_conv kd3 kd36 rfl (wru64 (c := ((24 - 8 * (i % 4) : Nat) : Int)) (by omega) (by omega) (by omega))) ?_
          refine L_val rfl (x_shr (c := (at' (blocks H0 s) (i / 4)).fdiv (2 ^ (24 - 8 * (i % 4)))) rfl rfl (by omega) (by rw [show min ((24 - 8 * (i % 4) : Nat) : Int).toNat IntKind.u32.bits = 24 - 8 * (i % 4) by simp [IntKind.bits]; omega])) ?_
          refine L_val rfl (x_conv kd103 kd5 rfl rfl) ?_
          refine L_val rfl (x_indexArr ar93 (i := i) rfl rfl (by omega)) ?_
          refine L_store (v := u8 (outB (blocks H0 s) i)) sz5 rfl rfl rfl rfl h8 (by rw [L8_size]; omega) (fun w12 hb12 hc12 => ?_)
          refine L_nil ?_
          refine W_region rfl ?_
          refine L_val rfl (x_move (by conv => lhs; whnf)) ?_
          refine L_val rfl (x_add rfl rfl (wr64 (c := ((i + 1 : Nat) : Int)) (by omega) (by omega) (by omega))) ?_
          refine L_val rfl (x_assign (by conv => lhs; whnf)) ?_
          refine L_nil ?_
          rw [show 0 + i * 1 = i by omega, L8_set, outL_set _ hcond] at hb12
          exact ⟨32 - (i + 1), by omega, i + 1, by omega, rfl, ⟨rfl, rfl, rfl, rfl, trivial⟩, hb12, hc11.same hc12⟩
        · refine W_false (congrArg Value.bool (decide_eq_false (by omega))) ?_
          refine W_exit ?_
          have hi32 : i = 32 := by omega
          subst hi32
          have ho32 : outL (blocks H0 s) 32 = out (blocks H0 s) := by simp [outL, out]
          rw [ho32] at h8 hol
          refine W_seq ?_
          refine W_region rfl ?_
          refine L_val rfl (x_loadRow ag93 rfl h8 (by rw [L8_size]; exact hol)) ?_
          refine L_storeAll sz93 rfl rfl rfl (by rw [L8_size]; exact hol) (L8_one _) (hc11.at (hc10.at h29 (by simp)) (by simp; omega)) (by rw [L8_size]; simp) (fun w12 hb12 hc12 => ?_)
          refine L_nil ?_
          refine W_ret ?_
          exact resRow rfl ag93 rfl hb12 (by rw [L8_size]; exact hol) ⟨rfl, ((hC9.trans0 hc10).out hc11 (by simp; omega)).out hc12 (by simp; omega)⟩
end Go.Proofs.Ytinoebjhcmeppaa
