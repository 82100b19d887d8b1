/- The walks of slices.IndexFunc and slices.ContainsFunc at wal.Open's closure, and of wal.Open's closure that takes a record. -/
import Derived.Test.YtinoebjhcmeppaaWalB
import Derived.Test.YtinoebjhcmeppaaHeld
namespace Go.Proofs.Ytinoebjhcmeppaa
open E Sha
set_option maxRecDepth 100000
set_option maxHeartbeats 4000000

theorem x_callC {P : Program} {f : Fr} {w : World} {dst : Option Tmp} {ps : String} {af : Array Edge} {gd : Option (Nat × Bool)} {ty : TypeId} {x : Operand} {g : FuncId} {captured : Array Value} {xs : List Operand} {ats : Array TypeId} {args : Array Value}
    (hx : ev f x = .func (.func g) #[] captured) (hg : fnOk P g = true) (ha : (xs.map (ev f)).toArray ++ captured = args) :
    (execOp (ev f) ⟨dst, .call ⟨.value x, xs.toArray, ats⟩, ty, ps, af, gd⟩).run P w = .ok (.enter g args) w := by
  subst ha; exact x_callv hx hg

theorem f26_nz (c : Int) (w : World) : Calls Try.prog 26 #[u8 c] w (fun e w' => e = .returned (.bool (!decide (c = 0))) ∧ w' = w) := by
  refine (calls_W (args := [u8 c]) (R := fun v w' => v = .bool (!decide (c = 0)) ∧ w' = w) Try.func26 rfl Try.ntmps26 rfl ?_).mono (fun e w' ⟨v, he, hv, hw⟩ => ⟨hv ▸ he, hw⟩)
  refine W_seq ?_
  refine W_region rfl ?_
  refine L_val rfl (x_assign (by conv => lhs; whnf)) ?_
  refine L_nil ?_
  refine W_seq ?_
  refine W_region rfl ?_
  refine L_val rfl (x_move (by conv => lhs; whnf)) ?_
  refine L_val rfl (x_neq rfl rfl rfl) ?_
  refine L_val rfl (x_assign (by conv => lhs; whnf)) ?_
  refine L_nil ?_
  refine W_ret ?_
  exact res1 rfl rfl ⟨rfl, rfl⟩

/-- The first place that is not zero, or none. -/
def nzAt (xs : List Int) : Option Nat := xs.findIdx? fun c => !decide (c = 0)

theorem f47_index {w : World} {x : Value} {xs : List Int} (hx : Bt w x xs) :
    Calls Try.prog 47 #[x, .func (.func 26) #[] #[]] w (fun e w' => (∃ r : Int, e = .returned (i64 r) ∧ -1 ≤ r ∧ (0 ≤ r ↔ ∃ c ∈ xs, c ≠ 0)) ∧ w' = w) := by
  obtain ⟨a, cap, rfl⟩ := hx.is
  have hlx := hx.lens
  have hmx : maxLen ≤ 9223372036854775807 := by decide
  refine (calls_W (args := [.slice a xs.length cap, .func (.func 26) #[] #[]]) (R := fun v w' => (∃ r : Int, v = i64 r ∧ -1 ≤ r ∧ (0 ≤ r ↔ ∃ c ∈ xs, c ≠ 0)) ∧ w' = w) Try.func47 rfl Try.ntmps47 rfl ?_).mono (fun e w' ⟨v, he, ⟨r, hv, hr⟩, hw⟩ => ⟨⟨r, hv ▸ he, hr⟩, hw⟩)
  refine W_seq ?_
  refine W_region rfl ?_
  refine L_val rfl (x_assign (by conv => lhs; whnf)) ?_
  refine L_nil ?_
  refine W_seq ?_
  refine W_seq ?_
  refine W_region rfl ?_
  refine L_val rfl (x_move (by conv => lhs; whnf)) ?_
  refine L_val rfl (x_len el37 rfl) ?_
  refine L_val rfl (x_move (by conv => lhs; whnf)) ?_
  refine L_nil ?_
  refine W_block ?_
  refine W_loop (fun m f w1 => ∃ i, i ≤ xs.length ∧ m = xs.length - i ∧ Frm f [(0, .slice a xs.length cap), (1, .func (.func 26) #[] #[]), (7, i64 (xs.length : Nat)), (8, i64 (i : Nat))] ∧ (∀ j, j < i → at' xs j = 0) ∧ w1 = w) xs.length
    ⟨0, by omega, rfl, ⟨rfl, rfl, rfl, rfl, trivial⟩, by omega, rfl⟩ (fun m f w1 hI => ?_)
  obtain ⟨i, hi, rfl, hF, hz, rfl⟩ := hI
  obtain ⟨g, rfl⟩ := hF.eta
  refine W_seq ?_
  refine W_region rfl ?_
  refine L_val rfl (x_lss rfl rfl rfl) ?_
  refine L_nil ?_
  refine W_seq ?_
  by_cases hcond : i < xs.length
  · refine W_true (congrArg Value.bool (decide_eq_true (by omega))) ?_
    refine W_skip ?_
    refine W_seq ?_
    refine W_block ?_
    refine W_seq ?_
    obtain ⟨b, o, cap', hv', _, _, hcx⟩ := hx.some (by omega)
    simp only [Value.slice.injEq] at hv'
    obtain ⟨rfl, -, rfl⟩ := hv'
    refine W_region rfl ?_
    refine L_val rfl (x_move (by conv => lhs; whnf)) ?_
    refine L_val rfl (x_assign (by conv => lhs; whnf)) ?_
    refine L_nil ?_
    refine W_seq ?_
    refine W_region rfl ?_
    refine L_val rfl (x_move (by conv => lhs; whnf)) ?_
    refine L_val rfl (x_move (by conv => lhs; whnf)) ?_
    refine L_val rfl (x_move (by conv => lhs; whnf)) ?_
    refine L_val rfl (x_index el37 (i := i) rfl rfl (by omega)) ?_
    refine L_val rfl (x_load sc5 rfl (hcx i _ (by omega) (by omega))) ?_
    refine L_enterQ rfl (x_callC (args := #[u8 (at' xs i)]) rfl ok26 (by simp; rfl)) (f26_nz _ _) ?_
    refine L_nil ?_
    by_cases hz2 : at' xs i = 0
    · refine W_false (congrArg (fun b => Value.bool !b) (decide_eq_true hz2)) ?_
      refine W_skip ?_
      refine W_region rfl ?_
      refine L_val rfl (x_add rfl rfl (wr64 (c := ((i + 1 : Nat) : Int)) (by omega) (by omega) (by omega))) ?_
      refine L_val rfl (x_move (by conv => lhs; whnf)) ?_
      refine L_nil ?_
      refine ⟨xs.length - (i + 1), by omega, i + 1, by omega, rfl, ⟨rfl, rfl, rfl, rfl, trivial⟩, fun j hj => ?_, rfl⟩
      by_cases e : j = i
      · subst e; exact hz2
      · exact hz j (by omega)
    · refine W_true (congrArg (fun b => Value.bool !b) (decide_eq_false hz2)) ?_
      refine W_seq ?_
      refine W_region rfl ?_
      refine L_val rfl (x_move (by conv => lhs; whnf)) ?_
      refine L_val rfl (x_assign (by conv => lhs; whnf)) ?_
      refine L_nil ?_
      refine W_ret ?_
      refine res1 rfl rfl ⟨⟨(i : Int), rfl, by omega, fun _ => ⟨at' xs i, ?_, hz2⟩, fun _ => by omega⟩, rfl⟩
      simp [at', hcond]
  · refine W_false (congrArg Value.bool (decide_eq_false (by omega))) ?_
    refine W_exit ?_
    refine W_seq ?_
    refine W_region rfl ?_
    refine L_val rfl (x_assign (by conv => lhs; whnf)) ?_
    refine L_nil ?_
    refine W_ret ?_
    refine res1 rfl rfl ⟨⟨-1, rfl, by omega, fun h => by omega, fun ⟨c, hc, hne⟩ => ?_⟩, rfl⟩
    obtain ⟨j, hj, rfl⟩ := List.getElem_of_mem hc
    have := hz j (by omega)
    simp [at', hj] at this
    exact absurd this hne

theorem f25_contains {w : World} {x : Value} {xs : List Int} (hx : Bt w x xs) :
    Calls Try.prog 25 #[x, .func (.func 26) #[] #[]] w (Rv fun v w' => (v = .bool true ∧ (∃ c ∈ xs, c ≠ 0) ∨ v = .bool false ∧ ∀ c ∈ xs, c = 0) ∧ w' = w) := by
  refine calls_W (args := [x, .func (.func 26) #[] #[]]) Try.func25 rfl Try.ntmps25 rfl ?_
  refine W_seq ?_
  refine W_region rfl ?_
  refine L_val rfl (x_assign (by conv => lhs; whnf)) ?_
  refine L_nil ?_
  refine W_seq ?_
  refine W_region rfl ?_
  refine L_val rfl (x_move (v := x) rfl) ?_
  refine L_val rfl (x_move (by conv => lhs; whnf)) ?_
  refine L_call (R := fun v w' => (∃ r : Int, v = i64 r ∧ -1 ≤ r ∧ (0 ≤ r ↔ ∃ c ∈ xs, c ≠ 0)) ∧ w' = w) rfl (x_call ok47) ((f47_index hx).mono (fun e w' ⟨⟨r, he, hr⟩, hw⟩ => ⟨_, he, ⟨r, rfl, hr⟩, hw⟩)) (fun v w1 ⟨⟨r, hv, hr, hiff⟩, hw⟩ => ?_)
  subst hv; subst hw
  refine L_val rfl (x_geq rfl rfl rfl) ?_
  refine L_val rfl (x_assign (by conv => lhs; whnf)) ?_
  refine L_nil ?_
  refine W_ret ?_
  refine res1 rfl rfl ⟨?_, rfl⟩
  by_cases h : 0 ≤ r
  · exact .inl ⟨congrArg Value.bool (decide_eq_true h), hiff.1 h⟩
  · exact .inr ⟨congrArg Value.bool (decide_eq_false h), fun c hc => Decidable.byContradiction (fun hne => h (hiff.2 ⟨c, hc, hne⟩))⟩
end Go.Proofs.Ytinoebjhcmeppaa
