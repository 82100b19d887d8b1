/- The walk of the law's 'pieces'. -/
import Derived.Test.YtinoebjhcmeppaaRefH
namespace Go.Proofs.Ytinoebjhcmeppaa
open E Sha
set_option maxRecDepth 100000
set_option maxHeartbeats 4000000

theorem f16_pieces {w : World} {x y : Value} {vs us : List Value} {xs ys : List (List Int)} (hx : Rw w x vs) (hxs : Rs w vs xs) (hy : Rw w y us) (hys : Rs w us ys) (h1 : ∀ z ∈ xs, InB z) (h2 : ∀ z ∈ ys, InB z) :
    Calls Try.prog 16 #[x, y] w (Rv fun v w' => v = .bool (decide (xs = ys)) ∧ Chg [] w w') := by
  have hmx2 : maxLen ≤ 9223372036854775807 := by decide
  obtain ⟨a, cap, rfl⟩ := hx.len
  obtain ⟨b, cbp, rfl⟩ := hy.len
  have hlx := hxs.len
  have hly := hys.len
  have hcx : vs.length ≤ maxLen := by obtain ⟨_, _, hq, h1, h2, _⟩ := hx; simp only [Value.slice.injEq] at hq; omega
  refine calls_W (args := [.slice a vs.length cap, .slice b us.length cbp]) Try.func16 rfl Try.ntmps16 rfl ?_
  refine W_seq ?_
  refine W_region rfl ?_
  refine L_val rfl (x_assign (by conv => lhs; whnf)) ?_
  refine L_nil ?_
  refine W_seq ?_
  refine W_seq ?_
  refine W_region rfl ?_
  refine L_val rfl (x_move (by conv => lhs; whnf)) ?_
  refine L_val rfl (x_len el22 rfl) ?_
  refine L_val rfl (x_move (by conv => lhs; whnf)) ?_
  refine L_val rfl (x_len el22 rfl) ?_
  refine L_val rfl (x_neq rfl rfl rfl) ?_
  refine L_nil ?_
  by_cases hl : vs.length = us.length
  · refine W_false (congrArg (fun x => Value.bool !x) (decide_eq_true (by omega))) ?_
    refine W_skip ?_
    refine W_seq ?_
    refine W_seq ?_
    refine W_region rfl ?_
    refine L_val rfl (x_assign (by conv => lhs; whnf)) ?_
    refine L_nil ?_
    refine W_block ?_
    refine W_loop (fun m f w1 => ∃ i, i ≤ vs.length ∧ m = vs.length - i ∧ Frm f [(0, .slice a vs.length cap), (1, .slice b us.length cbp), (5, i64 (i : Nat))] ∧ xs.take i = ys.take i ∧ Chg [] w w1) vs.length
      ⟨0, by omega, rfl, ⟨rfl, rfl, rfl, trivial⟩, rfl, Chg.refl _ _⟩ (fun m f w1 hI => ?_)
    obtain ⟨i, hi, rfl, hF, heq, hc1⟩ := hI
    obtain ⟨g, rfl⟩ := hF.eta
    refine W_seq ?_
    refine W_seq ?_
    refine W_region rfl ?_
    refine L_val rfl (x_move (by conv => lhs; whnf)) ?_
    refine L_val rfl (x_move (by conv => lhs; whnf)) ?_
    refine L_val rfl (x_len el22 rfl) ?_
    refine L_val rfl (x_lss rfl rfl rfl) ?_
    refine L_nil ?_
    by_cases hcond : i < vs.length
    · refine W_true (congrArg Value.bool (decide_eq_true (by omega))) ?_
      refine W_skip ?_
      refine W_seq ?_
      refine W_block ?_
      have hcd : Chg [] w w1.drew := hc1.d
      obtain ⟨v, z, hv, hz, hb⟩ := (hxs.chg0 hcd).get (i := i) (by omega)
      obtain ⟨v', z', hv', hz', hb'⟩ := (hys.chg0 hcd).get (i := i) (by omega)
      obtain ⟨ba, oa, rfl, hca⟩ := rw_at (hx.chg0 hcd) hv
      obtain ⟨bb, ob, rfl, hcb⟩ := rw_at (hy.chg0 hcd) hv'
      have hin := h1 z (List.mem_of_getElem? hz)
      have hin' := h2 z' (List.mem_of_getElem? hz')
      refine W_seq ?_
      refine W_still mixed (by kernel_rfl) rfl ?_
      refine L_val rfl (x_move (by conv => lhs; whnf)) ?_
      refine L_val rfl (x_move (by conv => lhs; whnf)) ?_
      refine L_val rfl (x_index el22 (i := i) rfl rfl (by omega)) ?_
      refine L_val rfl (x_load sc37 rfl hca) ?_
      refine L_val rfl (x_move (by conv => lhs; whnf)) ?_
      refine L_val rfl (x_move (by conv => lhs; whnf)) ?_
      refine L_val rfl (x_index el22 (i := i) rfl rfl (by omega)) ?_
      refine L_val rfl (x_load sc37 rfl hcb) ?_
      refine L_enterQ rfl (x_call ok30) (f30_same hb hb' hin hin') ?_
      refine L_val rfl (x_not rfl) ?_
      refine L_nil ?_
      by_cases he : z = z'
      · refine W_false (congrArg (fun b => Value.bool !b) (decide_eq_true he)) ?_
        refine W_skip ?_
        refine W_region rfl ?_
        refine L_val rfl (x_move (by conv => lhs; whnf)) ?_
        refine L_val rfl (x_add rfl rfl (wr64 (c := ((i + 1 : Nat) : Int)) (by omega) (by omega) (by omega))) ?_
        refine L_val rfl (x_assign (by conv => lhs; whnf)) ?_
        refine L_nil ?_
        exact ⟨vs.length - (i + 1), by omega, i + 1, by omega, rfl, ⟨rfl, rfl, rfl, trivial⟩, by rw [List.take_add_one, List.take_add_one, heq, hz, hz', he], hcd⟩
      · refine W_true (congrArg (fun b => Value.bool !b) (decide_eq_false he)) ?_
        refine W_seq ?_
        refine W_region rfl ?_
        refine L_val rfl (x_assign (by conv => lhs; whnf)) ?_
        refine L_nil ?_
        refine W_ret ?_
        have hne : xs ≠ ys := fun e => he (by rw [e] at hz; rw [hz] at hz'; exact Option.some.inj hz')
        exact res1 (v := .bool false) rfl rfl ⟨by rw [decide_eq_false hne], hcd⟩
    · refine W_false (congrArg Value.bool (decide_eq_false (by omega))) ?_
      refine W_exit ?_
      have hall : xs = ys := by
        rw [List.take_of_length_le (by omega), List.take_of_length_le (by omega)] at heq
        exact heq
      refine W_seq ?_
      refine W_region rfl ?_
      refine L_val rfl (x_assign (by conv => lhs; whnf)) ?_
      refine L_nil ?_
      refine W_ret ?_
      exact res1 (v := .bool true) rfl rfl ⟨by rw [decide_eq_true hall], hc1⟩
  · refine W_true (congrArg (fun x => Value.bool !x) (decide_eq_false (by omega))) ?_
    refine W_seq ?_
    refine W_region rfl ?_
    refine L_val rfl (x_assign (by conv => lhs; whnf)) ?_
    refine L_nil ?_
    refine W_ret ?_
    have hne : xs ≠ ys := fun e => by rw [e] at hlx; omega
    exact res1 (v := .bool false) rfl rfl ⟨by rw [decide_eq_false hne], Chg.refl _ _⟩
end Go.Proofs.Ytinoebjhcmeppaa
