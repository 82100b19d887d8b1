/- The law of the log, in plain Lean: a record that is put behind the records of a disk that is zero from there on is read back. -/
import Derived.Test.YtinoebjhcmeppaaPut
namespace Go.Proofs.Ytinoebjhcmeppaa
open E Sha

theorem flat_agree {F F' : Nat → List Int} (a : Nat) : ∀ k, (∀ i, a ≤ i → i < a + k → F i = F' i) → flat F a k = flat F' a k
  | 0, _ => rfl
  | k + 1, h => by rw [flat_succ, flat_succ, flat_agree a k (fun i h1 h2 => h i h1 (by omega)), h (a + k) (by omega) (by omega)]
theorem good_agree {F F' : Nat → List Int} {n k a : Nat} {x : List Int} (hF : ∀ i, i < n → (F i).length = 64) (hg : good F n k a = some x) (h : ∀ i, a ≤ i → i < a + (x.length + 75) / 64 → F i = F' i) : good F' n k a = some x := by
  obtain ⟨h1, h2, h3, h4, h5, h6, h7⟩ := good_spec hF hg
  have ha : F a = F' a := h a (Nat.le_refl _) (by omega)
  have hr : recAt F' n a = some x := by
    unfold recAt at h6 ⊢
    rw [← ha, ← flat_agree a ((num4 (F a) + 75) / 64) (fun i q1 q2 => h i q1 (by rw [h5]; exact q2))]
    exact h6
  unfold good
  rw [hr]
  simp only
  rw [if_pos (by rw [h7]; unfold wantAt; rw [ha])]
theorem runs_on {F F' : Nat → List Int} {n : Nat} (hF : ∀ i, i < n → (F i).length = 64) {k a : Nat} {xs : List (List Int)} {k' a' : Nat} (h : Runs F n k a xs k' a') (ha : a ≤ n) (hag : ∀ i, i < a' → F i = F' i) :
    ∀ {ys : List (List Int)} {k'' a'' : Nat}, Runs F' n k' a' ys k'' a'' → Runs F' n k a (xs ++ ys) k'' a'' := by
  induction h with
  | stop _ => intro ys k'' a'' h2; exact h2
  | step hg hr ih =>
    intro ys k'' a'' h2
    have hs := good_spec hF hg
    have hle := hr.le hF (by omega)
    exact .step (good_agree hF hg (fun i _ q2 => hag i (by omega))) (ih (by omega) hag h2)

/-- The bytes of a record, up to whole sectors. -/
def recZ (ys : List Int) (k : Int) : List Int := recB ys k ++ List.replicate (64 * ((ys.length + 75) / 64) - (ys.length + 12)) 0
theorem recZ_len (ys : List Int) (k : Int) : (recZ ys k).length = 64 * ((ys.length + 75) / 64) := by
  simp only [recZ, List.length_append, recB_len, List.length_replicate]; omega
theorem padS_piece (ys : List Int) (k : Int) {j : Nat} (hj : j < (ys.length + 75) / 64) : padS (piece (recB ys k) j) = ((recZ ys k).drop (64 * j)).take 64 := by
  have hl := recB_len ys k
  refine List.ext_getElem? (fun t => ?_)
  by_cases ht : t < 64
  · rw [List.getElem?_take_of_lt ht, List.getElem?_drop]
    unfold padS piece recZ
    by_cases h1 : 64 * j + t < (recB ys k).length
    · rw [List.getElem?_append_left (by simp; omega), List.getElem?_take_of_lt ht, List.getElem?_drop, List.getElem?_append_left h1]
    · rw [List.getElem?_append_right (by simp; omega), List.getElem?_append_right (by omega), List.getElem?_replicate, List.getElem?_replicate]
      rw [if_pos (by simp; omega), if_pos (by omega)]
  · rw [List.getElem?_eq_none (by rw [padS_len (by simp [piece]; omega)]; omega), List.getElem?_eq_none (by simp; omega)]
def putF (F : Nat → List Int) (B : List Int) (u m : Nat) (i : Nat) : List Int := if u ≤ i ∧ i < u + m then padS (piece B (i - u)) else F i
theorem flat_put (F : Nat → List Int) (ys : List Int) (k : Int) (u : Nat) : ∀ m, m ≤ (ys.length + 75) / 64 → flat (putF F (recB ys k) u ((ys.length + 75) / 64)) u m = (recZ ys k).take (64 * m)
  | 0, _ => by simp [flat]
  | m + 1, h => by
    rw [flat_succ, flat_put F ys k u m (by omega)]
    have : putF F (recB ys k) u ((ys.length + 75) / 64) (u + m) = ((recZ ys k).drop (64 * m)).take 64 := by
      unfold putF
      rw [if_pos (by omega), Nat.add_sub_cancel_left, padS_piece ys k (by omega)]
    rw [this, show 64 * (m + 1) = 64 * m + 64 by omega, List.take_add]

theorem nb_bytes (m : Nat) (h : m < 4294967296) (j : Nat) (hj : j < 4) : at' (nb (m : Int) 4) j = ((m / 256 ^ (3 - j) % 256 : Nat) : Int) := by
  have hw : ∀ x : Nat, IntKind.u8.wrap (x : Int) = ((x % 256 : Nat) : Int) := fun x => by simp [IntKind.wrap, IntKind.bits, IntKind.signed]
  have hq : ∀ e : Nat, ((m : Int).fdiv (2 ^ e)) = ((m / 2 ^ e : Nat) : Int) := fun e => by
    rw [Int.fdiv_eq_ediv_of_nonneg _ (Int.pow_nonneg (by decide))]
    norm_cast
  match j, hj with
  | 0, _ => simp only [at', nb, List.range, List.range.loop, List.map, List.getD_cons_zero]; rw [hq, hw]
  | 1, _ => simp only [at', nb, List.range, List.range.loop, List.map, List.getD_cons_zero, List.getD_cons_succ]; rw [hq, hw]
  | 2, _ => simp only [at', nb, List.range, List.range.loop, List.map, List.getD_cons_zero, List.getD_cons_succ]; rw [hq, hw]
  | 3, _ => simp only [at', nb, List.range, List.range.loop, List.map, List.getD_cons_zero, List.getD_cons_succ]; rw [hq, hw]
theorem num4_nb {bs : List Int} {m : Nat} (h : m < 4294967296) (hb : bs.take 4 = nb (m : Int) 4) : num4 bs = m := by
  have hat : ∀ j, j < 4 → at' bs j = at' (nb (m : Int) 4) j := fun j hj => by
    rw [← hb]; unfold at'; simp [List.getD_eq_getElem?_getD, List.getElem?_take_of_lt hj]
  unfold num4
  rw [hat 0 (by omega), hat 1 (by omega), hat 2 (by omega), hat 3 (by omega), nb_bytes m h 0 (by omega), nb_bytes m h 1 (by omega), nb_bytes m h 2 (by omega), nb_bytes m h 3 (by omega)]
  simp only [Nat.sub_zero, show 3 - 1 = 2 by rfl, show 3 - 2 = 1 by rfl, show 3 - 3 = 0 by rfl]
  omega
theorem nb4_len (x : Int) : (nb x 4).length = 4 := nb_len x 4
theorem recZ_eq (ys : List Int) (k : Int) : ∃ z, recZ ys k = nb (ys.length : Int) 4 ++ (sumB ys k ++ (ys ++ z)) := ⟨List.replicate (64 * ((ys.length + 75) / 64) - (ys.length + 12)) 0, by simp only [recZ, recB, List.append_assoc]⟩
theorem good_put (F : Nat → List Int) {n u k : Nat} {ys : List Int} (h1 : 1 ≤ ys.length) (h2 : ys.length ≤ 20000) (hfit : u + (ys.length + 75) / 64 ≤ n) :
    good (putF F (recB ys k) u ((ys.length + 75) / 64)) n k u = some ys := by
  obtain ⟨z, hz⟩ := recZ_eq ys k
  have hK : 1 ≤ (ys.length + 75) / 64 := by omega
  have hzl := recZ_len ys (k : Int)
  have hFu : putF F (recB ys k) u ((ys.length + 75) / 64) u = (recZ ys k).take 64 := by
    unfold putF
    rw [if_pos (by omega), Nat.sub_self, padS_piece ys k (by omega)]
    simp
  have hn4 := nb4_len (ys.length : Int)
  have hs8 := sumB_len ys k
  have ht4 : ((recZ ys k).take 64).take 4 = nb (ys.length : Int) 4 := by
    rw [List.take_take, show min 4 64 = 4 by rfl, hz, List.take_append_of_le_length (by omega), List.take_of_length_le (by omega)]
  have hnum : num4 (putF F (recB ys k) u ((ys.length + 75) / 64) u) = ys.length := by rw [hFu]; exact num4_nb (by omega) ht4
  have hrec : recAt (putF F (recB ys k) u ((ys.length + 75) / 64)) n u = some ys := by
    unfold recAt
    rw [hnum, if_pos (by omega), flat_put F ys k u _ (Nat.le_refl _)]
    have ht : (recZ ys (k : Int)).take (64 * ((ys.length + 75) / 64)) = nb (ys.length : Int) 4 ++ sumB ys k ++ (ys ++ z) := by
      rw [List.take_of_length_le (Nat.le_of_eq hzl), hz, List.append_assoc]
    rw [ht]
    congr 1
    rw [List.drop_append, List.drop_eq_nil_of_le (by simp; omega)]
    simp [hn4, hs8]
  unfold good
  rw [hrec]
  simp only
  rw [if_pos]
  unfold wantAt
  rw [hFu, List.drop_take, List.take_take, hz, List.drop_append, List.drop_eq_nil_of_le (by omega), hn4]
  simp only [Nat.sub_self, List.drop_zero, List.nil_append]
  rw [show min 8 (64 - 4) = 8 by rfl, List.take_append_of_le_length (by omega), List.take_of_length_le (by omega)]
theorem num4_zero : num4 zero64 = 0 := by
  have h : ∀ (m i : Nat), at' (List.replicate m 0) i = 0 := fun m i => by
    unfold at'
    by_cases hi : i < m
    · simp [List.getD_eq_getElem?_getD, hi]
    · simp [List.getD_eq_getElem?_getD, hi]
  unfold num4 zero64; rw [h, h, h, h]; rfl
theorem good_zero {F : Nat → List Int} {n k a : Nat} (h : a < n → F a = zero64) : good F n k a = none := by
  unfold good recAt
  by_cases ha : a < n
  · rw [h ha, num4_zero, if_neg (by omega)]
  · rw [if_neg (by omega)]
/-- THE LAW: what was put is read back. -/
theorem runs_put {F : Nat → List Int} {n k u : Nat} {xs : List (List Int)} {ys : List Int} (hF : ∀ i, i < n → (F i).length = 64) (h : Runs F n 0 0 xs k u) (hz : ∀ i, u ≤ i → i < n → F i = zero64) (h1 : 1 ≤ ys.length) (h2 : ys.length ≤ 20000) (hfit : u + (ys.length + 75) / 64 ≤ n) :
    Runs (putF F (recB ys k) u ((ys.length + 75) / 64)) n 0 0 (xs ++ [ys]) (k + 1) (u + (ys.length + 75) / 64) := by
  refine runs_on hF h (Nat.zero_le _) (fun i hi => by unfold putF; rw [if_neg (by omega)]) (.step (good_put F h1 h2 hfit) (.stop (good_zero (fun hlt => ?_))))
  unfold putF
  rw [if_neg (by omega)]
  exact hz _ (by omega) hlt
theorem runs_det {F : Nat → List Int} {n k a : Nat} {xs ys : List (List Int)} {k1 a1 k2 a2 : Nat} (h1 : Runs F n k a xs k1 a1) (h2 : Runs F n k a ys k2 a2) : xs = ys ∧ k1 = k2 ∧ a1 = a2 := by
  induction h1 generalizing ys k2 a2 with
  | stop hg =>
    cases h2 with
    | stop _ => exact ⟨rfl, rfl, rfl⟩
    | step hg2 _ => rw [hg] at hg2; cases hg2
  | step hg _ ih =>
    cases h2 with
    | stop hg2 => rw [hg] at hg2; cases hg2
    | step hg2 hr2 =>
      rw [hg] at hg2; cases hg2
      obtain ⟨rfl, rfl, rfl⟩ := ih hr2
      exact ⟨rfl, rfl, rfl⟩
end Go.Proofs.Ytinoebjhcmeppaa
