/- The walks of the log's small functions: Sync, Len, Used; and of Put, Sync, Len, Used of no log. -/
import Derived.Test.YtinoebjhcmeppaaPut
import Derived.Test.YtinoebjhcmeppaaCrash
namespace Go.Proofs.Ytinoebjhcmeppaa
open E Sha
set_option maxRecDepth 100000
set_option maxHeartbeats 4000000
abbrev nilp : Value := .pointer none

section
variable {w : World} {bd bs bm n : Nat} {S : Nat → List Int} {D : Nat → Option (List Int)}
theorem f10_sync (h : Dk w bd bs bm n S D) {bl k u : Nat} (hL : Lg w bl bd k u) :
    Calls Try.prog 10 #[ptr bl 0] w (Rv fun _ w' => Dk w' bd bs bm n (cur S D) (fun _ => none) ∧ Chg [bs, bm] w w') := by
  refine calls_W (args := [ptr bl 0]) Try.func10 rfl Try.ntmps10 rfl ?_
  refine W_seq ?_
  refine W_region rfl ?_
  refine L_val rfl (x_move (by conv => lhs; whnf)) ?_
  refine L_val rfl (x_neqNil pt28 rfl rfl) ?_
  refine L_nil ?_
  refine W_true rfl ?_
  refine W_region rfl ?_
  refine L_val rfl (x_move (by conv => lhs; whnf)) ?_
  refine L_val rfl (x_nilCheck rfl) ?_
  refine L_val rfl (x_field fo_50_0 rfl) ?_
  refine L_val rfl (x_load sc24 rfl (cell_at (v := ptr bd 0) hL rfl)) ?_
  refine L_call rfl (x_call ok28) (f28_sync h) (fun v w1 hv => ?_)
  refine L_nil ?_
  exact res0 rfl hv
theorem f10_nil (w : World) : Calls Try.prog 10 #[nilp] w (Rv fun _ w' => w' = w) := by
  refine calls_W (args := [nilp]) Try.func10 rfl Try.ntmps10 rfl ?_
  refine W_seq ?_
  refine W_region rfl ?_
  refine L_val rfl (x_move (by conv => lhs; whnf)) ?_
  refine L_val rfl (x_neqNil pt28 rfl rfl) ?_
  refine L_nil ?_
  refine W_false rfl ?_
  refine W_skip ?_
  exact res0 rfl rfl
theorem f18_used {bl bd k u : Nat} (hL : Lg w bl bd k u) : Calls Try.prog 18 #[ptr bl 0] w (fun e w' => e = .returned (i64 (u : Nat)) ∧ w' = w) := by
  refine (calls_W (args := [ptr bl 0]) (R := fun v w' => v = i64 (u : Nat) ∧ w' = w) Try.func18 rfl Try.ntmps18 rfl ?_).mono (fun e w' ⟨v, he, hv, hw⟩ => ⟨hv ▸ he, hw⟩)
  refine W_seq ?_
  refine W_region rfl ?_
  refine L_val rfl (x_assign (by conv => lhs; whnf)) ?_
  refine L_nil ?_
  refine W_seq ?_
  refine W_seq ?_
  refine W_region rfl ?_
  refine L_val rfl (x_move (by conv => lhs; whnf)) ?_
  refine L_val rfl (x_eqlNil pt28 rfl rfl) ?_
  refine L_nil ?_
  refine W_false rfl ?_
  refine W_skip ?_
  refine W_seq ?_
  refine W_region rfl ?_
  refine L_val rfl (x_move (by conv => lhs; whnf)) ?_
  refine L_val rfl (x_nilCheck rfl) ?_
  refine L_val rfl (x_field fo_50_2 rfl) ?_
  refine L_val rfl (x_load sc3 rfl (cell_at (v := i64 (u : Nat)) hL rfl)) ?_
  refine L_val rfl (x_assign (by conv => lhs; whnf)) ?_
  refine L_nil ?_
  refine W_ret ?_
  exact res1 rfl rfl ⟨rfl, rfl⟩
theorem f18_nil (w : World) : Calls Try.prog 18 #[nilp] w (fun e w' => e = .returned (i64 0) ∧ w' = w) := by
  refine (calls_W (args := [nilp]) (R := fun v w' => v = i64 0 ∧ w' = w) Try.func18 rfl Try.ntmps18 rfl ?_).mono (fun e w' ⟨v, he, hv, hw⟩ => ⟨hv ▸ he, hw⟩)
  refine W_seq ?_
  refine W_region rfl ?_
  refine L_val rfl (x_assign (by conv => lhs; whnf)) ?_
  refine L_nil ?_
  refine W_seq ?_
  refine W_seq ?_
  refine W_region rfl ?_
  refine L_val rfl (x_move (by conv => lhs; whnf)) ?_
  refine L_val rfl (x_eqlNil pt28 rfl rfl) ?_
  refine L_nil ?_
  refine W_true rfl ?_
  refine W_seq ?_
  refine W_region rfl ?_
  refine L_val rfl (x_assign (by conv => lhs; whnf)) ?_
  refine L_nil ?_
  refine W_ret ?_
  exact res1 rfl rfl ⟨rfl, rfl⟩
theorem f19_len {bl bd k u : Nat} (hL : Lg w bl bd k u) : Calls Try.prog 19 #[ptr bl 0] w (fun e w' => e = .returned (i64 (k : Nat)) ∧ w' = w) := by
  refine (calls_W (args := [ptr bl 0]) (R := fun v w' => v = i64 (k : Nat) ∧ w' = w) Try.func19 rfl Try.ntmps19 rfl ?_).mono (fun e w' ⟨v, he, hv, hw⟩ => ⟨hv ▸ he, hw⟩)
  refine W_seq ?_
  refine W_region rfl ?_
  refine L_val rfl (x_assign (by conv => lhs; whnf)) ?_
  refine L_nil ?_
  refine W_seq ?_
  refine W_seq ?_
  refine W_region rfl ?_
  refine L_val rfl (x_move (by conv => lhs; whnf)) ?_
  refine L_val rfl (x_eqlNil pt28 rfl rfl) ?_
  refine L_nil ?_
  refine W_false rfl ?_
  refine W_skip ?_
  refine W_seq ?_
  refine W_region rfl ?_
  refine L_val rfl (x_move (by conv => lhs; whnf)) ?_
  refine L_val rfl (x_nilCheck rfl) ?_
  refine L_val rfl (x_field fo_50_1 rfl) ?_
  refine L_val rfl (x_load sc3 rfl (cell_at (v := i64 (k : Nat)) hL rfl)) ?_
  refine L_val rfl (x_assign (by conv => lhs; whnf)) ?_
  refine L_nil ?_
  refine W_ret ?_
  exact res1 rfl rfl ⟨rfl, rfl⟩
theorem f19_nil (w : World) : Calls Try.prog 19 #[nilp] w (fun e w' => e = .returned (i64 0) ∧ w' = w) := by
  refine (calls_W (args := [nilp]) (R := fun v w' => v = i64 0 ∧ w' = w) Try.func19 rfl Try.ntmps19 rfl ?_).mono (fun e w' ⟨v, he, hv, hw⟩ => ⟨hv ▸ he, hw⟩)
  refine W_seq ?_
  refine W_region rfl ?_
  refine L_val rfl (x_assign (by conv => lhs; whnf)) ?_
  refine L_nil ?_
  refine W_seq ?_
  refine W_seq ?_
  refine W_region rfl ?_
  refine L_val rfl (x_move (by conv => lhs; whnf)) ?_
  refine L_val rfl (x_eqlNil pt28 rfl rfl) ?_
  refine L_nil ?_
  refine W_true rfl ?_
  refine W_seq ?_
  refine W_region rfl ?_
  refine L_val rfl (x_assign (by conv => lhs; whnf)) ?_
  refine L_nil ?_
  refine W_ret ?_
  exact res1 rfl rfl ⟨rfl, rfl⟩
theorem f12_nil (w : World) (x : Value) : Calls Try.prog 12 #[nilp, x] w (Rv fun v w' => v = i64 1 ∧ Chg [] w w') := by
  refine calls_marks (args := [nilp, x]) Try.func12 rfl Try.ntmps12 rfl ?_
  refine WQ_seq ?_
  refine Wf_region rfl rfl ?_
  refine L_box rfl (by conv => lhs; whnf) (fun w1 hb1 hc1 hs1 => ?_)
  refine L_val rfl (x_assign (by conv => lhs; whnf)) ?_
  refine L_nil ?_
  refine WQ_seq ?_
  refine Wf_block ?_
  refine Wf_seq ?_
  refine Wf_region rfl rfl ?_
  refine L_val rfl (x_load sc28 rfl (cell_at (v := nilp) hb1 rfl)) ?_
  refine L_val rfl (x_eqlNil pt28 rfl rfl) ?_
  refine L_val rfl (x_move (by conv => lhs; whnf)) ?_
  refine L_no rfl ?_
  refine L_no rfl ?_
  refine L_no rfl ?_
  refine L_val rfl (x_pick_t rfl (by conv => lhs; whnf)) ?_
  refine L_val rfl (x_move (by conv => lhs; whnf)) ?_
  refine L_no rfl ?_
  refine L_no rfl ?_
  refine L_no rfl ?_
  refine L_val rfl (x_pick_t rfl (by conv => lhs; whnf)) ?_
  refine L_val rfl (x_assign (by conv => lhs; whnf)) ?_
  refine L_nil ?_
  refine Wf_true rfl ?_
  refine Wf_seq ?_
  refine Wf_region rfl rfl ?_
  refine L_val rfl (x_assign (by conv => lhs; whnf)) ?_
  refine L_nil ?_
  refine Wf_ret ?_
  intro a ha hfa
  exact leaves_plain ha (hfa ▸ res1 (v := i64 1) rfl rfl ⟨rfl, hc1⟩)
theorem f7_nil (w : World) : Calls Try.prog 7 #[nilp] w (Rv fun v w' => v = .tuple #[nilp, .slice none 0 0, i64 1] ∧ w' = w) := by
  refine calls_W (args := [nilp]) Try.func7 rfl Try.ntmps7 rfl ?_
  refine W_seq ?_
  refine W_region rfl ?_
  refine L_val rfl (x_assign (by conv => lhs; whnf)) ?_
  refine L_val rfl (x_assign (by conv => lhs; whnf)) ?_
  refine L_val rfl (x_assign (by conv => lhs; whnf)) ?_
  refine L_nil ?_
  refine W_seq ?_
  refine W_seq ?_
  refine W_region rfl ?_
  refine L_val rfl (x_move (by conv => lhs; whnf)) ?_
  refine L_val rfl (x_eqlNil pt24 rfl rfl) ?_
  refine L_nil ?_
  refine W_true rfl ?_
  refine W_seq ?_
  refine W_region rfl ?_
  refine L_val rfl (x_assign (by conv => lhs; whnf)) ?_
  refine L_val rfl (x_assign (by conv => lhs; whnf)) ?_
  refine L_val rfl (x_assign (by conv => lhs; whnf)) ?_
  refine L_nil ?_
  refine W_ret ?_
  exact res3 rfl rfl rfl rfl ⟨rfl, rfl⟩
end
end Go.Proofs.Ytinoebjhcmeppaa
