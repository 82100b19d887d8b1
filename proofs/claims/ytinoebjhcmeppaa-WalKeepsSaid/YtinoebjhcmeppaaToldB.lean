/- The walk of the law's 'told'. -/
import Derived.Test.YtinoebjhcmeppaaTold
namespace Go.Proofs.Ytinoebjhcmeppaa
open E Sha
set_option maxRecDepth 100000
set_option maxHeartbeats 4000000

theorem _root_.Go.Proofs.Ytinoebjhcmeppaa.E.Chg.out {U : List Nat} {w w1 w2 : World} (h : Chg [] w w1) (h' : Chg U w1 w2) (hU : ∀ k ∈ U, w.heap.size ≤ k) : Chg [] w w2 := h.trans h' (fun k hk => .inr (hU k hk))
theorem recs_two {w : World} {base : Nat} {vs : List Value} {x y : List Int} (h : Recs w base vs ([] ++ [x] ++ [y])) : ∃ a b, vs = [a, b] ∧ Bt w a x ∧ Bt w b y := by
  match vs, h with
  | [a, b], h => exact ⟨a, b, rfl, h.1.1, h.2.1.1⟩
  | [], h => exact h.elim
  | [_], h => exact h.2.elim
  | _ :: _ :: _ :: _, h => exact h.2.2.elim
theorem f6_told (w : World) : Calls Try.prog 6 #[] w (Rv fun v w' => v = .bool true ∧ Chg [] w w') := by
  refine calls_W (args := []) Try.func6 rfl Try.ntmps6 rfl ?_
  refine W_seq ?_

  refine W_region rfl ?_
  refine L_val rfl (x_assign (by conv => lhs; whnf)) ?_
  refine L_nil ?_
  refine W_seq ?_

  refine W_region rfl ?_
  refine L_call rfl (x_call ok5) (f5_new (n := 4) (by decide)) (fun v w1 ⟨bd, bs, bm, hv, hbd, hbs, hbm, hD1, hc1⟩ => ?_)
  subst hv
  refine L_val rfl (x_move (by conv => lhs; whnf)) ?_
  refine L_val rfl (x_extract rfl rfl) ?_
  refine L_val rfl (x_extract rfl rfl) ?_
  refine L_val rfl (x_assign (by conv => lhs; whnf)) ?_
  refine L_val rfl (x_assign (by conv => lhs; whnf)) ?_
  refine L_nil ?_
  refine W_seq ?_
  refine W_seq ?_

  refine W_region rfl ?_
  refine L_val rfl (x_move (by conv => lhs; whnf)) ?_
  refine L_val rfl (x_neq rfl rfl rfl) ?_
  refine L_val rfl (x_move (by conv => lhs; whnf)) ?_
  refine L_val rfl (x_move (by conv => lhs; whnf)) ?_
  refine L_val rfl (x_eqlNil pt24 rfl rfl) ?_
  refine L_val rfl (x_pick_f rfl (by conv => lhs; whnf)) ?_
  refine L_nil ?_

  refine W_false rfl ?_
  refine W_skip ?_
  refine W_seq ?_

  refine W_region rfl ?_
  refine L_val rfl (x_move (by conv => lhs; whnf)) ?_
  refine L_call rfl (x_call ok7) (f7_open hD1 (fun i _ => zero64_inB) (by decide)) (fun v w2 ⟨bl, vout, xs, k, u, vs, hv, hr, hbl, hlog, hown, hrecs, hD2, hc2⟩ => ?_)
  subst hv
  obtain ⟨rfl, rfl, rfl⟩ := runs_det hr (.stop (good_zero (fun _ => rfl)))
  have hS2 := St.opened (fun i hi => hD1.lenC hi) (fun i _ => zero64_inB) hr hD2 hlog
  have hvl := hrecs.len
  obtain ⟨va, vcap, rfl⟩ := own_slice hown
  rw [hvl]
  refine L_val rfl (x_move (by conv => lhs; whnf)) ?_
  refine L_val rfl (x_extract rfl rfl) ?_
  refine L_val rfl (x_extract rfl rfl) ?_
  refine L_val rfl (x_extract rfl rfl) ?_
  refine L_val rfl (x_assign (by conv => lhs; whnf)) ?_
  refine L_val rfl (x_assign (by conv => lhs; whnf)) ?_
  refine L_val rfl (x_assign (by conv => lhs; whnf)) ?_
  refine L_nil ?_
  refine W_seq ?_
  refine W_seq ?_

  refine W_region rfl ?_
  refine L_val rfl (x_move (by conv => lhs; whnf)) ?_
  refine L_val rfl (x_neq rfl rfl rfl) ?_
  refine L_val rfl (x_move (by conv => lhs; whnf)) ?_
  refine L_val rfl (x_move (by conv => lhs; whnf)) ?_
  refine L_val rfl (x_eqlNil pt28 rfl rfl) ?_
  refine L_val rfl (x_pick_f rfl (by conv => lhs; whnf)) ?_
  refine L_nil ?_

  refine W_false rfl ?_
  refine W_skip ?_
  refine W_seq ?_

  refine W_region rfl ?_
  refine L_val rfl (x_move (by conv => lhs; whnf)) ?_
  refine L_makeBytes (m := 52) rfl rfl rfl (by decide) (fun wm0 hbm0 hcm0 hsm0 => ?_)
  refine L_call rfl (x_call ok12) (put_ok (hS2.chg0 hcm0) (by decide) (zeros_bt hbm0 (by decide)) (inB_zeros _) (by simp) (by simp) (by simp)) (fun v w3 ⟨hv, hS3, hc3⟩ => ?_)
  subst hv
  refine L_val rfl (x_assign (by conv => lhs; whnf)) ?_
  refine L_nil ?_
  refine W_seq ?_

  refine W_region rfl ?_
  refine L_val rfl (x_move (by conv => lhs; whnf)) ?_
  refine L_makeBytes (m := 53) rfl rfl rfl (by decide) (fun wm1 hbm1 hcm1 hsm1 => ?_)
  refine L_call rfl (x_call ok12) (put_ok (hS3.chg0 hcm1) (by decide) (zeros_bt hbm1 (by decide)) (inB_zeros _) (by simp) (by simp) (by simp)) (fun v w4 ⟨hv, hS4, hc4⟩ => ?_)
  subst hv
  refine L_val rfl (x_assign (by conv => lhs; whnf)) ?_
  refine L_nil ?_
  refine W_seq ?_

  refine W_region rfl ?_
  refine L_val rfl (x_move (by conv => lhs; whnf)) ?_
  refine L_call rfl (x_call ok10) (f10_sync hS4.dk hS4.log) (fun v w5 ⟨hD5, hc5⟩ => ?_)
  have hne4 := lg_ne hS4.dk hS4.log
  have hS5 := hS4.sync hD5 (hc5.at hS4.log (by simp; omega))
  refine L_nil ?_
  refine W_seq ?_

  refine W_region rfl ?_
  refine L_val rfl (x_move (by conv => lhs; whnf)) ?_
  refine L_makeBytes (m := 60) rfl rfl rfl (by decide) (fun wm2 hbm2 hcm2 hsm2 => ?_)
  refine L_call rfl (x_call ok12) (put_full (hS5.chg0 hcm2) (by decide) (zeros_bt hbm2 (by decide)) (by simp) (by simp) (by simp)) (fun v w6 ⟨hv, hc6⟩ => ?_)
  subst hv
  refine L_val rfl (x_assign (by conv => lhs; whnf)) ?_
  refine L_nil ?_
  refine W_seq ?_

  refine W_region rfl ?_
  refine L_val rfl (x_move (by conv => lhs; whnf)) ?_
  refine L_new rfl (x_buildSlice rfl (run_buildSliceN (cells := L8 [120]) e1_37 (by decide) (by decide) (by kernel_rfl))) ?_
  refine L_new rfl (x_convR rfl (Lib.run_convert_bytes_const w6 37 5 (L8 [120]) 1 1 (elemOfT_spec el37).1 (kindOf_spec kd5))) ?_
  generalize hw7 : w6.alloc (.cells (L8 [120]) 5 ((L8 [120]).size, (L8 [120]).size + 1)) = w7
  have hb7 : w7.heap[w6.heap.size]? = some (.cells (L8 [120]) 5 ((L8 [120]).size, (L8 [120]).size + 1)) := by subst hw7; exact Go.heap_alloc_new _ _
  have hc7 : Chg [] w6 w7 := by subst hw7; exact Chg.alloc _ _ _
  have hS7 := ((hS5.chg0 hcm2).chg0 hc6).chg0 hc7
  have hB7 : Bt w7 (.slice (some ⟨w6.heap.size, 0, none⟩) 1 1) [120] := L8_bytes hb7 (by decide) rfl
  refine L_call rfl (x_call ok12) (put_ok hS7 (by decide) hB7 (fun x hx => by simp at hx; omega) (by simp) (by simp) (by simp)) (fun v w8 ⟨hv, hS8, hc8⟩ => ?_)
  subst hv
  refine L_val rfl (x_assign (by conv => lhs; whnf)) ?_
  refine L_nil ?_
  refine W_seq ?_

  refine W_region rfl ?_
  refine L_val rfl (x_move (by conv => lhs; whnf)) ?_
  refine L_call rfl (x_call ok14) (f14_crash (keep := []) hS8.dk (by decide) (Rw.nil w8) (fun h => absurd rfl h) (-1) 0) (fun v w9 ⟨hD9, hc9⟩ => ?_)
  rw [funext (crS_nothing _ _ 0)] at hD9
  refine L_nil ?_
  refine W_seq ?_
  refine W_region rfl ?_
  refine L_val rfl (x_move (by conv => lhs; whnf)) ?_
  refine L_call rfl (x_call ok7) (f7_open hD9 hS5.inb (by decide)) (fun v w10 ⟨bl2, vout2, xs2, k2, u2, vs2, hv, hr2, hbl2, hlog2, hown2, hrecs2, hD10, hc10⟩ => ?_)
  subst hv
  obtain ⟨rfl, rfl, rfl⟩ := runs_det hr2 hS5.runs
  obtain ⟨va, vb, rfl, hva, hvb⟩ := recs_two hrecs2
  have hrow2 := Rw.of_own hown2
  obtain ⟨va2, vcap2, rfl, hle2, hmx2, hel2⟩ := hrow2
  obtain ⟨b2, o2, rfl, hcell2⟩ := hel2 1 vb rfl
  obtain ⟨ab, capb, rfl⟩ := hvb.is
  refine L_val rfl (x_move (by conv => lhs; whnf)) ?_
  refine L_val rfl (x_extract rfl rfl) ?_
  refine L_val rfl (x_extract rfl rfl) ?_
  refine L_val rfl (x_extract rfl rfl) ?_
  refine L_val rfl (x_assign (by conv => lhs; whnf)) ?_
  refine L_val rfl (x_assign (by conv => lhs; whnf)) ?_
  refine L_val rfl (x_assign (by conv => lhs; whnf)) ?_
  refine L_nil ?_
  have hne8 := lg_ne hS8.dk hS8.log
  have hlogA : Lg w10 bl bd 3 4 := hc10.at (hc9.at hS8.log (by simp; omega)) (by simp; omega)
  have hbl' : w.heap.size ≤ bl := Nat.le_trans hc1.size hbl
  have hall : Chg [] w w10 := ((((((((((((hc1.out hc2 (by simp; omega)).out hcm0 (by simp)).out hc3 (by simp; omega)).out hcm1 (by simp)).out hc4 (by simp; omega)).out hc5 (by simp; omega)).out hcm2 (by simp)).out hc6 (by simp)).out hc7 (by simp)).out hc8 (by simp; omega)).out hc9 (by simp; omega)).out hc10 (by simp; omega))
  have hput12 := f12_put hD10 hlogA (x := .slice none 0 0) (ys := []) (Rw.nil _) (by decide) (by decide) (by decide) (by decide)
  refine W_seq ?_
  refine W_region rfl ?_
  refine L_call rfl (x_call ok7) (f7_nil w10) (fun v w11 ⟨hv, hw11⟩ => ?_)
  subst hv hw11
  refine L_val rfl (x_move (by conv => lhs; whnf)) ?_
  refine L_val rfl (x_extract rfl rfl) ?_
  refine L_val rfl (x_extract rfl rfl) ?_
  refine L_val rfl (x_extract rfl rfl) ?_
  refine L_val rfl (x_assign (by conv => lhs; whnf)) ?_
  refine L_val rfl (x_assign (by conv => lhs; whnf)) ?_
  refine L_val rfl (x_assign (by conv => lhs; whnf)) ?_
  refine L_nil ?_
  refine W_seq ?_
  refine W_region rfl ?_
  refine L_val rfl (x_move (by conv => lhs; whnf)) ?_
  refine L_val rfl (x_len el22 rfl) ?_
  refine L_val rfl (x_eql rfl rfl rfl) ?_
  refine L_val rfl (x_move (by conv => lhs; whnf)) ?_
  refine L_val rfl (x_move (by conv => lhs; whnf)) ?_
  refine L_val rfl (x_eql rfl rfl rfl) ?_
  refine L_val rfl (x_pick_t rfl (by conv => lhs; whnf)) ?_
  refine L_val rfl (x_move (by conv => lhs; whnf)) ?_
  refine L_val rfl (x_move (by conv => lhs; whnf)) ?_
  refine L_val rfl (x_eql rfl rfl rfl) ?_
  refine L_val rfl (x_pick_t rfl (by conv => lhs; whnf)) ?_
  refine L_val rfl (x_move (by conv => lhs; whnf)) ?_
  refine L_val rfl (x_move (by conv => lhs; whnf)) ?_
  refine L_val rfl (x_eql rfl rfl rfl) ?_
  refine L_val rfl (x_pick_t rfl (by conv => lhs; whnf)) ?_
  refine L_val rfl (x_move (by conv => lhs; whnf)) ?_
  refine L_val rfl (x_move (by conv => lhs; whnf)) ?_
  refine L_val rfl (x_eql rfl rfl rfl) ?_
  refine L_val rfl (x_pick_t rfl (by conv => lhs; whnf)) ?_
  refine L_val rfl (x_move (by conv => lhs; whnf)) ?_
  refine L_val rfl (x_move (by conv => lhs; whnf)) ?_
  refine L_enterQ rfl (x_call ok19) (f19_len hlogA) ?_
  refine L_val rfl (x_eql rfl rfl rfl) ?_
  refine L_val rfl (x_pick_t rfl (by conv => lhs; whnf)) ?_
  refine L_val rfl (x_move (by conv => lhs; whnf)) ?_
  refine L_val rfl (x_move (by conv => lhs; whnf)) ?_
  refine L_enterQ rfl (x_call ok18) (f18_used hlogA) ?_
  refine L_val rfl (x_eql rfl rfl rfl) ?_
  refine L_val rfl (x_pick_t rfl (by conv => lhs; whnf)) ?_
  refine L_val rfl (x_move (by conv => lhs; whnf)) ?_
  refine L_val rfl (x_move (by conv => lhs; whnf)) ?_
  refine L_val rfl (x_eql rfl rfl rfl) ?_
  refine L_val rfl (x_pick_t rfl (by conv => lhs; whnf)) ?_
  refine L_val rfl (x_move (by conv => lhs; whnf)) ?_
  refine L_val rfl (x_move (by conv => lhs; whnf)) ?_
  refine L_val rfl (x_len el22 rfl) ?_
  refine L_val rfl (x_eql rfl rfl rfl) ?_
  refine L_val rfl (x_pick_t rfl (by conv => lhs; whnf)) ?_
  refine L_val rfl (x_move (by conv => lhs; whnf)) ?_
  refine L_val rfl (x_move (by conv => lhs; whnf)) ?_
  refine L_val rfl (x_index el22 (i := 1) rfl rfl (by simp)) ?_
  refine L_val rfl (x_load sc37 rfl hcell2) ?_
  refine L_val rfl (x_len el37 rfl) ?_
  refine L_val rfl (x_eql rfl rfl rfl) ?_
  refine L_val rfl (x_pick_t rfl (by conv => lhs; whnf)) ?_
  refine L_val rfl (x_move (by conv => lhs; whnf)) ?_
  refine L_val rfl (x_move (by conv => lhs; whnf)) ?_
  refine L_val rfl (x_eql rfl rfl rfl) ?_
  refine L_val rfl (x_pick_t rfl (by conv => lhs; whnf)) ?_
  refine L_val rfl (x_move (by conv => lhs; whnf)) ?_
  refine L_val rfl (x_move (by conv => lhs; whnf)) ?_
  refine L_call rfl (x_call ok12) hput12 (fun v w12 hv => ?_)
  obtain ⟨rfl, hc12⟩ := hv
  refine L_val rfl (x_eql rfl rfl rfl) ?_
  refine L_val rfl (x_pick_t rfl (by conv => lhs; whnf)) ?_
  refine L_val rfl (x_assign (by conv => lhs; whnf)) ?_
  refine L_nil ?_
  refine W_ret ?_
  exact res1 rfl rfl ⟨rfl, hall.out hc12 (by simp)⟩
end Go.Proofs.Ytinoebjhcmeppaa
