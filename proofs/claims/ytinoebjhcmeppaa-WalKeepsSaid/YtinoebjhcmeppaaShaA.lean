/- The walks of the program's SHA-256, the small functions: RotateLeft32, first, rounds, New, Copy; and the digest's own cells. -/
import Derived.Test.YtinoebjhcmeppaaSha
import Derived.Test.YtinoebjhcmeppaaFacts
namespace Go.Proofs.Ytinoebjhcmeppaa
open E Sha
set_option maxRecDepth 100000

abbrev ptr (b o : Nat) : Value := .pointer (some ⟨b, o, none⟩)
abbrev u64 : Int → Value := Value.int .u64
def dig (h rest : List Int) (n : Int) : Array Value := (h.map u32 ++ rest.map u8 ++ [u64 n]).toArray

theorem f81_rot (x : Int) {k : Int} {n : Nat} (hk : bits .and .u64 (IntKind.u64.wrap k) 31 = ((32 - n : Nat) : Int)) (h1 : 1 ≤ n) (h2 : n ≤ 31) (w : World) :
    Calls Try.prog 81 #[u32 x, i64 k] w (fun e w' => e = .returned (u32 (ror x n)) ∧ w' = w) := by
  refine (calls_W (args := [u32 x, i64 k]) (R := fun v w' => v = u32 (ror x n) ∧ w' = w) Try.func81 rfl Try.ntmps81 rfl ?_).mono (fun e w' ⟨v, he, hv, hw⟩ => ⟨hv ▸ he, hw⟩)
  refine W_seq ?_
  refine W_region rfl ?_
  refine L_val rfl (x_assign (by conv => lhs; whnf)) ?_
  refine L_nil ?_
  refine W_seq ?_
  refine W_region rfl ?_
  refine L_val rfl (x_move (by conv => lhs; whnf)) ?_
  refine L_val rfl (x_conv kd3 kd36 rfl rfl) ?_
  refine L_val rfl (x_and rfl rfl) ?_
  refine L_val rfl (x_assign (by conv => lhs; whnf)) ?_
  refine L_nil ?_
  rw [hk]
  refine W_seq ?_
  refine W_region rfl ?_
  refine L_val rfl (x_move (by conv => lhs; whnf)) ?_
  refine L_val rfl (x_move (by conv => lhs; whnf)) ?_
  refine L_val rfl (x_shl (c := sl x (32 - n)) rfl rfl (by omega) (by simp only [sl, IntKind.bits]; rw [show min ((32 - n : Nat) : Int).toNat 32 = 32 - n by omega])) ?_
  refine L_val rfl (x_move (by conv => lhs; whnf)) ?_
  refine L_val rfl (x_move (by conv => lhs; whnf)) ?_
  refine L_val rfl (x_sub rfl rfl (wru64 (c := (n : Int)) (by omega) (by omega) (by omega))) ?_
  refine L_val rfl (x_shr (c := sr x n) rfl rfl (by omega) (by simp only [sr, IntKind.bits]; rw [show min (n : Int).toNat 32 = n by omega])) ?_
  refine L_val rfl (x_or rfl rfl) ?_
  refine L_val rfl (x_assign (by conv => lhs; whnf)) ?_
  refine L_nil ?_
  refine W_ret ?_
  exact res1 (v := u32 (og (sl x (32 - n)) (sr x n))) rfl rfl ⟨congrArg u32 (og_comm _ _), rfl⟩

theorem f66_first (w : World) : Calls Try.prog 66 #[] w (Rv fun v w' => v = .agg (L32 H0) ∧ Chg [] w w') := by
  refine calls_W (args := []) Try.func66 rfl Try.ntmps66 rfl ?_
  refine W_seq ?_
  refine W_region rfl ?_
  refine L_alloc zero104 rfl (fun w1 hb hc hs => ?_)
  refine L_nil ?_
  refine W_seq ?_
  refine W_region rfl ?_
  refine L_val rfl (x_build rfl (run_build w1 _ _ (L32 H0) (by kernel_rfl))) ?_
  refine L_storeAll sz104 rfl rfl rfl rfl (L32_one _) hb rfl (fun w2 hb2 hc2 => ?_)
  refine L_nil ?_
  refine W_ret ?_
  exact resRow rfl ag104 rfl hb2 rfl ⟨rfl, hc.trans hc2 (by simp)⟩

theorem f80_rounds (w : World) : Calls Try.prog 80 #[] w (Rv fun v w' => v = .agg (L32 KS) ∧ Chg [] w w') := by
  refine calls_W (args := []) Try.func80 rfl Try.ntmps80 rfl ?_
  refine W_seq ?_
  refine W_region rfl ?_
  refine L_alloc zero112 rfl (fun w1 hb hc hs => ?_)
  refine L_nil ?_
  refine W_seq ?_
  refine W_region rfl ?_
  refine L_val rfl (x_build rfl (run_build w1 _ _ (L32 KS) (by kernel_rfl))) ?_
  refine L_storeAll sz112 rfl rfl rfl rfl (L32_one _) hb rfl (fun w2 hb2 hc2 => ?_)
  refine L_nil ?_
  refine W_ret ?_
  exact resRow rfl (by kernel_rfl : aggn Try.prog 112 = some 64) rfl hb2 rfl ⟨rfl, hc.trans hc2 (by simp)⟩

theorem f59_new (w : World) : Calls Try.prog 59 #[] w (Rv fun v w' => ∃ b, v = ptr b 0 ∧ w.heap.size ≤ b ∧ w'.heap[b]? = some (.cells (dig H0 (List.replicate 64 0) 0) 116 (0, 0)) ∧ Chg [] w w') := by
  refine calls_W (args := []) Try.func59 rfl Try.ntmps59 rfl ?_
  refine W_seq ?_
  refine W_region rfl ?_
  refine L_val rfl (x_assign (by conv => lhs; whnf)) ?_
  refine L_nil ?_
  refine W_seq ?_
  refine W_region rfl ?_
  refine L_call rfl (x_call ok66) (f66_first _) (fun v w1 ⟨hv, hc1⟩ => ?_)
  subst hv
  refine L_val rfl (x_build rfl (run_build w1 _ _ (dig H0 (List.replicate 64 0) 0) (by kernel_rfl))) ?_
  refine L_box rfl rfl (fun w2 hb hc hs => ?_)
  refine L_val rfl (x_assign (by conv => lhs; whnf)) ?_
  refine L_nil ?_
  refine W_ret ?_
  exact res1 rfl rfl ⟨_, rfl, hc1.size, hb, hc1.trans0 hc⟩

theorem dig_size {h rest : List Int} {n : Int} (hh : h.length = 8) (hr : rest.length = 64) : (dig h rest n).size = 73 := by simp [dig, hh, hr]
theorem dig_one (h rest : List Int) (n : Int) : ∀ v ∈ (dig h rest n).toList, v.oneCell' = true := by
  intro v hv
  simp [dig] at hv
  rcases hv with ⟨x, _, rfl⟩ | ⟨x, _, rfl⟩ | rfl <;> rfl

theorem f68_copy {w : World} {b : Nat} {h rest : List Int} {n : Int} (hb : w.heap[b]? = some (.cells (dig h rest n) 116 (0, 0))) (hh : h.length = 8) (hr : rest.length = 64) :
    Calls Try.prog 68 #[ptr b 0] w (Rv fun v w' => ∃ b', v = ptr b' 0 ∧ w.heap.size ≤ b' ∧ w'.heap[b']? = some (.cells (dig h rest n) 116 (0, 0)) ∧ Chg [] w w') := by
  refine calls_W (args := [ptr b 0]) Try.func68 rfl Try.ntmps68 rfl ?_
  refine W_seq ?_
  refine W_region rfl ?_
  refine L_val rfl (x_assign (by conv => lhs; whnf)) ?_
  refine L_nil ?_
  refine W_seq ?_
  refine W_seq ?_
  refine W_region rfl ?_
  refine L_val rfl (x_move (by conv => lhs; whnf)) ?_
  refine L_val rfl (x_eqlNil pt106 rfl rfl) ?_
  refine L_nil ?_
  refine W_false rfl ?_
  refine W_skip ?_
  refine W_seq ?_
  refine W_region rfl ?_
  refine L_val rfl (x_move (by conv => lhs; whnf)) ?_
  refine L_val rfl (x_nilCheck rfl) ?_
  refine L_val rfl (x_loadRow ag116 rfl hb (dig_size hh hr)) ?_
  refine L_alloc zero116 rfl (fun w1 hb1 hc1 hs1 => ?_)
  refine L_storeAll sz116 rfl rfl rfl (dig_size hh hr) (dig_one _ _ _) hb1 rfl (fun w2 hb2 hc2 => ?_)
  refine L_nil ?_
  refine W_seq ?_
  refine W_region rfl ?_
  refine L_val rfl (x_assign (by conv => lhs; whnf)) ?_
  refine L_nil ?_
  refine W_ret ?_
  exact res1 rfl rfl ⟨_, rfl, Nat.le_refl _, hb2, hc1.trans hc2 (by simp)⟩

theorem dig_getH {h rest : List Int} {n : Int} {i : Nat} (hi : i < h.length) : (dig h rest n)[i]? = some (u32 (at' h i)) := by
  simp [dig, at', List.getElem?_append, hi]
theorem dig_setH {h rest : List Int} {n x : Int} {i : Nat} (hi : i < h.length) : (dig h rest n).setIfInBounds i (u32 x) = dig (h.set i x) rest n := by
  apply Array.ext'
  simp [dig, List.map_set, List.set_append, hi]
theorem cellH {w : World} {b j i : Nat} {h rest : List Int} {n : Int} {T : TypeId} {z : Nat × Nat} (hb : w.heap[b]? = some (.cells (dig h rest n) T z)) (hj : j = i) (hi : i < h.length) :
    w.cell? ⟨b, j, none⟩ = some (u32 (at' h i)) := by subst hj; exact cell_at hb (dig_getH hi)
theorem dig_getN {h rest : List Int} {n : Int} (hh : h.length = 8) (hr : rest.length = 64) : (dig h rest n)[72]? = some (u64 n) := by
  simp [dig, List.getElem?_append, hh, hr]
theorem dig_setN {h rest : List Int} {n m : Int} (hh : h.length = 8) (hr : rest.length = 64) : (dig h rest n).setIfInBounds 72 (u64 m) = dig h rest m := by
  apply Array.ext'
  simp [dig, List.set_append, hh, hr]
/-- Bytes are written into what is kept. -/
theorem dig_splice {h rest ys : List Int} {n : Int} {o : Nat} (hh : h.length = 8) (hr : rest.length = 64) (ho : o ≤ 64) (hy : o + ys.length ≤ 64) :
    ((dig h rest n).toList.take (8 + o) ++ ys.map u8 ++ (dig h rest n).toList.drop (8 + o + ys.length)).toArray = dig h (rest.take o ++ ys ++ rest.drop (o + ys.length)) n := by
  have h1 : (h.map u32).length = 8 := by simp [hh]
  have h2 : (rest.map u8).length = 64 := by simp [hr]
  simp only [dig]
  congr 1
  rw [List.append_assoc (h.map u32), List.take_append, List.drop_append, h1, List.take_of_length_le (by omega), List.drop_eq_nil_of_le (by omega : (h.map u32).length ≤ 8 + o + ys.length)]
  rw [show 8 + o - 8 = o by omega, show 8 + o + ys.length - 8 = o + ys.length by omega, List.take_append_of_le_length (by omega), List.drop_append_of_le_length (by omega)]
  simp [List.map_take, List.map_drop]

end Go.Proofs.Ytinoebjhcmeppaa
