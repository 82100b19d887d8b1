/- The walks of the program's '(*sha.Digest).Sum' and 'sha.Sum'. -/
import Derived.Test.YtinoebjhcmeppaaShaC
namespace Go.Proofs.Ytinoebjhcmeppaa
open E Sha
set_option maxRecDepth 100000
set_option maxHeartbeats 2000000

/-! ### Rows of bytes -/
def L8 (xs : List Int) : Array Value := (xs.map u8).toArray
theorem L8_size (xs : List Int) : (L8 xs).size = xs.length := by simp [L8]
theorem L8_get {xs : List Int} {i : Nat} (h : i < xs.length) : (L8 xs)[i]? = some (u8 (at' xs i)) := by simp [L8, at', h]
theorem L8_set (xs : List Int) (i : Nat) (v : Int) : (L8 xs).setIfInBounds i (u8 v) = L8 (xs.set i v) := by
  apply Array.ext'; simp [L8, List.map_set]
theorem cell8 {w : World} {b j i : Nat} {xs : List Int} {T : TypeId} {z : Nat × Nat} (hb : w.heap[b]? = some (.cells (L8 xs) T z)) (hj : j = i) (h : i < xs.length) :
    w.cell? ⟨b, j, none⟩ = some (u8 (at' xs i)) := by subst hj; exact cell_at hb (L8_get h)
theorem L8_one (xs : List Int) : ∀ v ∈ (L8 xs).toList, v.oneCell' = true := by
  intro v hv; simp [L8] at hv; obtain ⟨x, _, rfl⟩ := hv; rfl
theorem L8_bytes {w : World} {b : Nat} {xs : List Int} {T : TypeId} {z : Nat × Nat} (hb : w.heap[b]? = some (.cells (L8 xs) T z)) (hm : xs.length ≤ maxLen) {n : Nat} (hn : xs.length = n) : Bt w (.slice (some ⟨b, 0, none⟩) n n) xs :=
  Rw.of_block hb (by simp [hn]) (Nat.le_refl _) (by omega) (fun j u hu => by simpa [L8] using hu)

theorem be64_succ (n : Int) (j : Nat) : be64 n (j + 1) = be64 n j ++ [IntKind.u8.wrap ((IntKind.u64.wrap (n * 8)).fdiv (2 ^ (56 - 8 * j)))] := by
  simp [be64, List.range_succ]

theorem own_new {w : World} {base e s n : Nat} {v : Value} {xs : List Value} (h : w.ownsRow base e s v n xs) : ∀ k ∈ v.ownBlock.toList, base ≤ k := fun k hk => (h.lt k (by simpa using hk)).1
theorem L32_agg {w : World} {b : Nat} {h rest : List Int} {n : Int} (hb : w.heap[b]? = some (.cells (dig h rest n) 116 (0, 0))) (_ : h.length = 8) :
    ∀ (j : Nat) v, (h.map u32)[j]? = some v → w.cell? ⟨b, 0 + 0 + j, none⟩ = some v := fun j v hv => by
  obtain ⟨hj, he⟩ := List.getElem?_eq_some_iff.1 hv
  rw [List.length_map] at hj
  have := cellH (i := j) hb (show 0 + 0 + j = j by omega) hj
  rw [this, ← he]
  simp [at', hj]

theorem f61_sum {w : World} {bd : Nat} {bs : List Int} (hD : Dg w bd bs) (hlen : bs.length ≤ 549755813888) :
    Calls Try.prog 61 #[ptr bd 0] w (Rv fun v w' => v = .agg (L8 (sha bs)) ∧ Chg [] w w') := by
  obtain ⟨rest, hr, hb0, ht⟩ := hD
  have hh : (blocks H0 bs).length = 8 := blocks_len H0_len bs
  have hbd := lt_of_at hb0
  refine calls_W (args := [ptr bd 0]) Try.func61 rfl Try.ntmps61 rfl ?_
  refine W_seq ?_
  refine W_region rfl ?_
  refine L_alloc zero93 rfl (fun w1 hb2 hc1 hs1 => ?_)
  refine L_nil ?_
  refine W_seq ?_
  refine W_region rfl ?_
  refine L_val rfl (x_move (by conv => lhs; whnf)) ?_
  refine L_call rfl (x_call ok68) (f68_copy (hc1.at hb0 (by simp)) hh hr) (fun v w2 ⟨bc, hv, hbc, hbC, hc2⟩ => ?_)
  subst hv
  refine L_val rfl (x_assign (by conv => lhs; whnf)) ?_
  refine L_nil ?_
  refine W_seq ?_
  refine W_seq ?_
  refine W_region rfl ?_
  refine L_val rfl (x_move (by conv => lhs; whnf)) ?_
  refine L_val rfl (x_eqlNil pt106 rfl rfl) ?_
  refine L_nil ?_
  refine W_false rfl ?_
  refine W_skip ?_
  refine W_seq ?_
  refine W_region rfl ?_
  refine L_val rfl (x_move (by conv => lhs; whnf)) ?_
  refine L_val rfl (x_nilCheck rfl) ?_
  refine L_val rfl (x_field fo_116_2 rfl) ?_
  refine L_val rfl (x_load sc73 rfl (cell_at hbC (dig_getN hh hr))) ?_
  refine L_val rfl (x_assign (by conv => lhs; whnf)) ?_
  refine L_nil ?_
  refine W_seq ?_
  refine W_region rfl ?_
  refine L_one e1_37 rfl (by conv => lhs; whnf) rfl (fun w3 hb5 hc3 hs3 => ?_)
  refine L_val rfl (x_assign (by conv => lhs; whnf)) ?_
  refine L_nil ?_
  refine W_seq ?_
  refine W_block ?_
  generalize hn : bs.length = n at *
  have hz : zeros n < 64 := by unfold zeros; omega
  have hmax : maxLen = 1152921504606846975 ∨ 1099511627776 ≤ maxLen := by right; decide
  have hbcl := lt_of_at hbC
  refine W_loop (fun m f w4 => ∃ j v, j ≤ zeros n ∧ m = zeros n - j ∧ Frm f [(2, ptr w.heap.size 0), (3, ptr bc 0), (4, u64 (n : Nat)), (5, v)] ∧ w4.ownsRow w2.heap.size 5 1 v (1 + j) ((128 :: List.replicate j 0).map u8) ∧ Chg [] w2 w4) (zeros n)
    ⟨0, _, by omega, rfl, ⟨rfl, rfl, rfl, rfl, trivial⟩, owns_block hb5 (Nat.le_refl _) rfl rfl (by decide), hc3⟩ (fun m f w4 hI => ?_)
  obtain ⟨j, v5, hj, rfl, hF, hown, hc4⟩ := hI
  obtain ⟨g, rfl⟩ := hF.eta
  have hB5 := Rw.of_own hown
  obtain ⟨a5, cap5, rfl⟩ := hB5.is
  refine W_seq ?_
  refine W_seq ?_
  refine W_region rfl ?_
  refine L_val rfl (x_move (by conv => lhs; whnf)) ?_
  refine L_val rfl (x_move (by conv => lhs; whnf)) ?_
  refine L_val rfl (x_len el37 rfl) ?_
  refine L_val rfl (x_conv kd3 kd73 rfl (wru64 (c := ((1 + j : Nat) : Int)) (by simp; omega) (by omega) (by omega))) ?_
  refine L_val rfl (x_add rfl rfl (wru64 (c := ((n + (1 + j) : Nat) : Int)) (by omega) (by omega) (by omega))) ?_
  refine L_val rfl (x_rem rfl rfl (by decide) (tm (c := (((n + (1 + j)) % 64 : Nat) : Int)) (by omega) (by omega) (by omega))) ?_
  refine L_val rfl (x_neq rfl rfl rfl) ?_
  refine L_nil ?_
  by_cases hcond : (n + (1 + j)) % 64 ≠ 56
  · refine W_true (congrArg (fun x => Value.bool !x) (decide_eq_false (by omega))) ?_
    refine W_skip ?_
    refine W_block ?_
    have hjz : j < zeros n := by unfold zeros at hj ⊢; omega
    refine W_region rfl ?_
    refine L_val rfl (x_move (by conv => lhs; whnf)) ?_
    refine L_one e1_37 rfl (by conv => lhs; whnf) rfl (fun w5 hb6 hc5 hs5 => ?_)
    have hown5 := own_chg hown hc5 (by simp)
    refine L_append e1_37 rfl rfl rfl hown5 (Rw.one hb6) (by simp [Value.oneCell']) (by simp; omega) (by simp; omega) (by have := hc4.size; omega) (fun v w6 ha => ?_)
    refine L_val rfl (x_assign (by conv => lhs; whnf)) ?_
    refine L_nil ?_
    refine ⟨zeros n - (j + 1), by omega, j + 1, v, by omega, rfl, ⟨rfl, rfl, rfl, rfl, trivial⟩, ?_, (hc4.same hc5).trans ha.chg (fun k hk => .inr (own_new hown k hk))⟩
    have h1 := ha.own
    rw [show (List.map u8 (128 :: List.replicate j 0) ++ [Value.int IntKind.u8 0]) = List.map u8 (128 :: List.replicate (j + 1) 0) by simp [List.replicate_succ']] at h1
    rw [show (List.map u8 (128 :: List.replicate (j + 1) 0)).length = 1 + (j + 1) by simp; omega] at h1
    exact h1
  · refine W_false (congrArg (fun x => Value.bool !x) (decide_eq_true (by omega))) ?_
    refine W_exit ?_
    refine W_seq ?_
    refine W_seq ?_
    have hjz : j = zeros n := by unfold zeros at hj ⊢; omega
    subst hjz
    refine W_region rfl ?_
    refine L_val rfl (x_assign (by conv => lhs; whnf)) ?_
    refine L_nil ?_
    refine W_block ?_
    refine W_loop (fun m f w5 => ∃ j v, j ≤ 8 ∧ m = 8 - j ∧ Frm f [(2, ptr w.heap.size 0), (3, ptr bc 0), (4, u64 (n : Nat)), (5, v), (6, i64 (56 - 8 * (j : Nat)))] ∧
        w5.ownsRow w2.heap.size 5 1 v (1 + zeros n + j) ((128 :: List.replicate (zeros n) 0 ++ be64 n j).map u8) ∧ Chg [] w2 w5) 8
      ⟨0, _, by omega, rfl, ⟨rfl, rfl, rfl, rfl, rfl, trivial⟩, by simpa [be64] using hown, hc4⟩ (fun m f w5 hI => ?_)
    clear hown hB5 hF hc4
    obtain ⟨j, v5, hj, rfl, hF, hown, hc4⟩ := hI
    obtain ⟨g, rfl⟩ := hF.eta
    have hB5 := Rw.of_own hown
    refine W_seq ?_
    refine W_seq ?_
    refine W_region rfl ?_
    refine L_val rfl (x_move (by conv => lhs; whnf)) ?_
    refine L_val rfl (x_geq rfl rfl rfl) ?_
    refine L_nil ?_
    by_cases hcond : j < 8
    · refine W_true (congrArg Value.bool (decide_eq_true (by omega))) ?_
      refine W_skip ?_
      refine W_seq ?_
      refine W_block ?_
      refine W_region rfl ?_
      refine L_val rfl (x_move (by conv => lhs; whnf)) ?_
      refine L_val rfl (x_move (by conv => lhs; whnf)) ?_
      refine L_val rfl (x_shl (c := IntKind.u64.wrap ((n : Int) * 8)) rfl rfl (by omega) rfl) ?_
      refine L_val rfl (x_move (by conv => lhs; whnf)) ?_
      refine L_val rfl (x_conv kd3 kd36 rfl (wru64 (c := ((56 - 8 * j : Nat) : Int)) (by omega) (by omega) (by omega))) ?_
      refine L_val rfl (x_shr (c := (IntKind.u64.wrap ((n : Int) * 8)).fdiv (2 ^ (56 - 8 * j))) rfl rfl (by omega) (by rw [show min ((56 - 8 * j : Nat) : Int).toNat IntKind.u64.bits = 56 - 8 * j by simp [IntKind.bits]; omega])) ?_
      refine L_val rfl (x_conv kd73 kd5 rfl rfl) ?_
      refine L_one e1_37 rfl (by conv => lhs; whnf) rfl (fun w6 hb6 hc5 hs5 => ?_)
      have hown5 := own_chg hown hc5 (by simp)
      refine L_append e1_37 rfl rfl rfl hown5 (Rw.one hb6) (fun u hu => by rw [List.mem_singleton.1 hu]; rfl) (by simp; omega) (by simp; omega) (by have := hc4.size; omega) (fun v w7 ha => ?_)
      refine L_val rfl (x_assign (by conv => lhs; whnf)) ?_
      refine L_nil ?_
      refine W_region rfl ?_
      refine L_val rfl (x_move (by conv => lhs; whnf)) ?_
      refine L_val rfl (x_sub rfl rfl (wr64 (c := 56 - 8 * ((j + 1 : Nat) : Int)) (by omega) (by omega) (by omega))) ?_
      refine L_val rfl (x_assign (by conv => lhs; whnf)) ?_
      refine L_nil ?_
      refine ⟨8 - (j + 1), by omega, j + 1, v, by omega, rfl, ⟨rfl, rfl, rfl, rfl, rfl, trivial⟩, ?_, (hc4.same hc5).trans ha.chg (fun k hk => .inr (own_new hown k hk))⟩
      have h1 := ha.own
      have he : ∀ x : Int, (List.map u8 (128 :: List.replicate (zeros n) 0 ++ be64 n j) ++ [u8 x]) = List.map u8 (128 :: List.replicate (zeros n) 0 ++ (be64 n j ++ [x])) := fun x => by simp
      have h2 : w7.ownsRow w2.heap.size 5 1 v _ (List.map u8 (128 :: List.replicate (zeros n) 0 ++ be64 n j) ++ [u8 (IntKind.u8.wrap ((IntKind.u64.wrap ((n : Int) * 8)).fdiv (2 ^ (56 - 8 * j))))]) := h1
      rw [he, ← be64_succ, show (List.map u8 (128 :: List.replicate (zeros n) 0 ++ be64 n (j + 1))).length = 1 + zeros n + (j + 1) by simp [be64]; omega] at h2
      exact h2
    · refine W_false (congrArg Value.bool (decide_eq_false (by omega))) ?_
      refine W_exit ?_
      refine W_seq ?_
      have hj8 : j = 8 := by omega
      subst hj8
      refine W_region rfl ?_
      refine L_val rfl (x_move (by conv => lhs; whnf)) ?_
      refine L_val rfl (x_move (by conv => lhs; whnf)) ?_
      have hDc : Dg w5 bc bs := ⟨rest, hr, by rw [hn]; exact hc4.at hbC (by simp), by rw [hn]; exact ht⟩
      have hBp : Bt w5 v5 (pad n) := hB5
      have hpl : (pad n).length ≤ 80 := by simp [pad, be64]; omega
      refine L_call rfl (x_call ok60) (f60_write hDc hBp (fun b hb => by have := (hown.lt b hb).1; omega) (by omega)) (fun v w6 ⟨hD6, hc6⟩ => ?_)
      obtain ⟨rest6, hr6, hb6, -⟩ := hD6
      have hh6 : (blocks H0 (bs ++ pad n)).length = 8 := blocks_len H0_len _
      refine L_nil ?_
      refine W_seq ?_
      refine W_region rfl ?_
      refine L_alloc zero93 rfl (fun w7 hb7 hc7 hs7 => ?_)
      refine L_nil ?_
      refine W_seq ?_
      refine W_seq ?_
      refine W_region rfl ?_
      refine L_val rfl (x_move (by conv => lhs; whnf)) ?_
      refine L_val rfl (x_nilCheck rfl) ?_
      refine L_val rfl (x_field fo_116_0 rfl) ?_
      refine L_val rfl (x_loadAgg ((blocks H0 (bs ++ pad n)).map u32) ag104 rfl (by simp [hh6]) (L32_agg (hc7.at hb6 (by simp)) hh6)) ?_
      refine L_val rfl (x_move (by conv => lhs; whnf)) ?_
      refine L_nil ?_
      refine W_block ?_
      refine W_loop (fun m f w8 => ∃ i l, i ≤ 8 ∧ m = 8 - i ∧ Frm f [(2, ptr w.heap.size 0), (7, ptr w6.heap.size 0), (49, .agg (L32 (blocks H0 (bs ++ pad n)))), (50, i64 (i : Nat))] ∧ l.length = 32 ∧
          (∀ j, j < 4 * i → l[j]? = some (outB (blocks H0 (bs ++ pad n)) j)) ∧ w8.heap[w6.heap.size]? = some (.cells (L8 l) 93 (0, 0)) ∧ Chg [w6.heap.size] w7 w8) 8
        ⟨0, List.replicate 32 0, by omega, rfl, ⟨rfl, rfl, rfl, rfl, trivial⟩, by simp, by omega, hb7, Chg.refl _ _⟩ (fun m f w8 hI => ?_)
      clear hF
      obtain ⟨i, l, hi, rfl, hF, hl, hlv, hb8, hc8⟩ := hI
      obtain ⟨g, rfl⟩ := hF.eta
      refine W_seq ?_
      refine W_region rfl ?_
      refine L_val rfl (x_lss rfl rfl rfl) ?_
      refine L_nil ?_
      refine W_seq ?_
      by_cases hcond : i < 8
      · refine W_true (congrArg Value.bool (decide_eq_true (by omega))) ?_
        refine W_skip ?_
        refine W_seq ?_
        refine W_block ?_
        refine W_seq ?_
        refine W_region rfl ?_
        refine L_val rfl (x_move (by conv => lhs; whnf)) ?_
        refine L_val rfl (x_indexAgg (i := i) ar104 sc103 rfl rfl (by omega) (L32_get (by omega))) ?_
        refine L_val rfl (x_assign (by conv => lhs; whnf)) ?_
        refine L_val rfl (x_assign (by conv => lhs; whnf)) ?_
        refine L_nil ?_
        generalize hx : at' (blocks H0 (bs ++ pad n)) i = x
        refine W_region rfl ?_
        refine L_val rfl (x_move (by conv => lhs; whnf)) ?_
        refine L_val rfl (x_mul rfl rfl (wr64 (c := ((4 * i : Nat) : Int)) (by omega) (by omega) (by omega))) ?_
        refine L_val rfl (x_move (by conv => lhs; whnf)) ?_
        refine L_val rfl (x_mul rfl rfl (wr64 (c := ((4 * i : Nat) : Int)) (by omega) (by omega) (by omega))) ?_
        refine L_val rfl (x_add rfl rfl (wr64 (c := (((4 * i) + 1 : Nat) : Int)) (by omega) (by omega) (by omega))) ?_
        refine L_val rfl (x_move (by conv => lhs; whnf)) ?_
        refine L_val rfl (x_mul rfl rfl (wr64 (c := ((4 * i : Nat) : Int)) (by omega) (by omega) (by omega))) ?_
        refine L_val rfl (x_add rfl rfl (wr64 (c := (((4 * i) + 2 : Nat) : Int)) (by omega) (by omega) (by omega))) ?_
        refine L_val rfl (x_move (by conv => lhs; whnf)) ?_
        refine L_val rfl (x_mul rfl rfl (wr64 (c := ((4 * i : Nat) : Int)) (by omega) (by omega) (by omega))) ?_
        refine L_val rfl (x_add rfl rfl (wr64 (c := (((4 * i) + 3 : Nat) : Int)) (by omega) (by omega) (by omega))) ?_
        refine L_val rfl (x_move (by conv => lhs; whnf)) ?_
        refine L_val rfl (x_shr (c := x.fdiv (2 ^ 24)) rfl rfl (by omega) rfl) ?_
        refine L_val rfl (x_conv kd103 kd5 rfl rfl) ?_
        refine L_val rfl (x_move (by conv => lhs; whnf)) ?_
        refine L_val rfl (x_shr (c := x.fdiv (2 ^ 16)) rfl rfl (by omega) rfl) ?_
        refine L_val rfl (x_conv kd103 kd5 rfl rfl) ?_
        refine L_val rfl (x_move (by conv => lhs; whnf)) ?_
        refine L_val rfl (x_shr (c := x.fdiv (2 ^ 8)) rfl rfl (by omega) rfl) ?_
        refine L_val rfl (x_conv kd103 kd5 rfl rfl) ?_
        refine L_val rfl (x_move (by conv => lhs; whnf)) ?_
        refine L_val rfl (x_conv kd103 kd5 rfl rfl) ?_
        refine L_val rfl (x_indexArr ar93 (i := 4 * i) rfl rfl (by omega)) ?_
        refine L_store sz5 rfl rfl (by conv => lhs; whnf) rfl hb8 (by rw [L8_size]; omega) (fun w9 hb9 hc9 => ?_)
        rw [L8_set] at hb9
        refine L_val rfl (x_indexArr ar93 (i := (4 * i) + 1) rfl rfl (by omega)) ?_
        refine L_store sz5 rfl rfl (by conv => lhs; whnf) rfl hb9 (by rw [L8_size]; simp; omega) (fun w10 hb10 hc10 => ?_)
        rw [L8_set] at hb10
        refine L_val rfl (x_indexArr ar93 (i := (4 * i) + 2) rfl rfl (by omega)) ?_
        refine L_store sz5 rfl rfl (by conv => lhs; whnf) rfl hb10 (by rw [L8_size]; simp; omega) (fun w11 hb11 hc11 => ?_)
        rw [L8_set] at hb11
        refine L_val rfl (x_indexArr ar93 (i := (4 * i) + 3) rfl rfl (by omega)) ?_
        refine L_store sz5 rfl rfl (by conv => lhs; whnf) rfl hb11 (by rw [L8_size]; simp; omega) (fun w12 hb12 hc12 => ?_)
        rw [L8_set] at hb12
        refine L_nil ?_
        refine W_region rfl ?_
        refine L_val rfl (x_add rfl rfl (wr64 (c := ((i + 1 : Nat) : Int)) (by omega) (by omega) (by omega))) ?_
        refine L_val rfl (x_move (by conv => lhs; whnf)) ?_
        refine L_nil ?_
        refine ⟨8 - (i + 1), by omega, i + 1, _, by omega, rfl, ⟨rfl, rfl, rfl, rfl, trivial⟩, by simp [hl], ?_, hb12, (((hc8.same hc9).same hc10).same hc11).same hc12⟩
        intro k hk
        rw [show 0 + 4 * i * 1 = 4 * i by omega, show 0 + (4 * i + 1) * 1 = 4 * i + 1 by omega, show 0 + (4 * i + 2) * 1 = 4 * i + 2 by omega, show 0 + (4 * i + 3) * 1 = 4 * i + 3 by omega]
        simp only [List.getElem?_set, List.length_set, hl]
        by_cases e3 : 4 * i + 3 = k
        · rw [if_pos e3, if_pos (by omega)]; simp only [outB]; rw [show k / 4 = i by omega, show 24 - 8 * (k % 4) = 0 by omega, hx, Int.pow_zero, Int.fdiv_one]
        rw [if_neg e3]
        by_cases e2 : 4 * i + 2 = k
        · rw [if_pos e2, if_pos (by omega)]; simp only [outB]; rw [show k / 4 = i by omega, show 24 - 8 * (k % 4) = 8 by omega, hx]
        rw [if_neg e2]
        by_cases e1 : 4 * i + 1 = k
        · rw [if_pos e1, if_pos (by omega)]; simp only [outB]; rw [show k / 4 = i by omega, show 24 - 8 * (k % 4) = 16 by omega, hx]
        rw [if_neg e1]
        by_cases e0 : 4 * i = k
        · rw [if_pos e0, if_pos (by omega)]; simp only [outB]; rw [show k / 4 = i by omega, show 24 - 8 * (k % 4) = 24 by omega, hx]
        rw [if_neg e0]
        exact hlv k (by omega)
      · refine W_false (congrArg Value.bool (decide_eq_false (by omega))) ?_
        refine W_exit ?_
        refine W_seq ?_
        have hi8 : i = 8 := by omega
        subst hi8
        have hlo : l = sha bs := by
          refine List.ext_getElem? (fun k => ?_)
          by_cases hk : k < 32
          · rw [hlv k (by omega)]; simp [sha, out, hk, hn]
          · rw [List.getElem?_eq_none (by omega), List.getElem?_eq_none (by rw [sha_len]; omega)]
        subst hlo
        refine W_region rfl ?_
        refine L_val rfl (x_loadRow ag93 rfl hb8 (by rw [L8_size]; exact hl)) ?_
        have hlt : w.heap.size < w1.heap.size := by omega
        have h17 : Chg [] w1 w7 := (((hc2.same hc4).trans hc6 (by simp; omega)).same hc7)
        have hb2' := hc8.at (h17.at hb2 (by simp)) (by have := hc2.size; have := hc4.size; have := hc6.size; simp; omega)
        refine L_storeAll sz93 rfl rfl rfl (by rw [L8_size]; exact hl) (L8_one _) hb2' rfl (fun w9 hb9 hc9 => ?_)
        refine L_nil ?_
        refine W_ret ?_
        refine resRow rfl ag93 rfl hb9 (by rw [L8_size]; exact hl) ⟨rfl, ?_⟩
        exact (((hc1.same h17).trans hc8 (by have := hc1.size; have := hc2.size; have := hc4.size; have := hc6.size; simp; omega))).trans hc9 (by simp)

theorem f51_sum {w : World} {v : Value} {bs : List Int} (hv : Bt w v bs) (hlen : bs.length ≤ 549755813888) (hin : ∀ b, v.ownBlock = some b → b < w.heap.size) :
    Calls Try.prog 51 #[v] w (Rv fun v w' => v = .agg (L8 (sha bs)) ∧ Chg [] w w') := by
  refine calls_W (args := [v]) Try.func51 rfl Try.ntmps51 rfl ?_
  refine W_seq ?_
  refine W_region rfl ?_
  refine L_alloc zero93 rfl (fun w1 hb1 hc1 hs1 => ?_)
  refine L_nil ?_
  refine W_seq ?_
  refine W_region rfl ?_
  refine L_call rfl (x_call ok59) (f59_new _) (fun v2 w2 ⟨b, hv2, hb, hbD, hc2⟩ => ?_)
  subst hv2
  refine L_val rfl (x_assign (by conv => lhs; whnf)) ?_
  refine L_nil ?_
  refine W_seq ?_
  refine W_region rfl ?_
  refine L_val rfl (x_move (by conv => lhs; whnf)) ?_
  refine L_val rfl (x_move (by conv => lhs; whnf)) ?_
  have hD : Dg w2 b [] := ⟨List.replicate 64 0, by simp, by rw [blocks_lt (by simp)]; exact hbD, rfl⟩
  refine L_call rfl (x_call ok60) (f60_write hD ((hv.chg0 hc1).chg0 hc2) (fun b' hb' => by have := hin b' hb'; omega) (by simp; omega)) (fun v3 w3 ⟨hD3, hc3⟩ => ?_)
  refine L_nil ?_
  refine W_seq ?_
  refine W_region rfl ?_
  refine L_val rfl (x_move (by conv => lhs; whnf)) ?_
  refine L_call rfl (x_call ok61) (f61_sum hD3 (by simpa using hlen)) (fun v4 w4 ⟨hv4, hc4⟩ => ?_)
  subst hv4
  have hb2 := (hc4.at (hc3.at (hc2.at hb1 (by simp)) (by simp; omega)) (by simp))
  refine L_storeAll sz93 rfl rfl rfl (by rw [L8_size, sha_len]) (L8_one _) hb2 rfl (fun w5 hb5 hc5 => ?_)
  refine L_nil ?_
  refine W_ret ?_
  refine resRow rfl ag93 rfl hb5 (by rw [L8_size, sha_len]) ⟨rfl, ?_⟩
  exact (((hc1.same hc2).trans hc3 (by simp; omega)).same hc4).trans hc5 (by simp)

end Go.Proofs.Ytinoebjhcmeppaa
