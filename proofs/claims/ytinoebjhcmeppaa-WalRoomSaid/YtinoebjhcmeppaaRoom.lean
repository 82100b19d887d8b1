/- The walk of the law WalRoom. -/
import Derived.Test.YtinoebjhcmeppaaToldB
namespace Go.Proofs.Ytinoebjhcmeppaa
open E Sha
set_option maxRecDepth 100000
set_option maxHeartbeats 4000000

theorem ub4 : Try.prog.underlying 4 = some .bool := by kernel_rfl
theorem wrapU (z : Int) : ∃ a : Nat, IntKind.u64.wrap z = (a : Int) := by
  refine ⟨(IntKind.u64.wrap z).toNat, ?_⟩
  have : 0 ≤ IntKind.u64.wrap z := by
    have h : IntKind.u64.wrap z = z % 18446744073709551616 := rfl
    rw [h]; omega
  omega
theorem f4_room {w : World} {x : Value} {zs : List Int} (z0 : Int) (hx : Rw w x (zs.map i64)) : Calls Try.prog 4 #[i64 z0, x] w (Rv fun v w' => v = .bool true ∧ Chg [] w w') := by
  obtain ⟨a, cap, rfl⟩ := hx.is
  have hlx := hx.lens
  have hmx : maxLen ≤ 9223372036854775807 := by decide
  obtain ⟨nz, hnz⟩ := wrapU z0
  have hnn : nz % 31 ≤ 30 := by omega
  generalize hnn0 : nz % 31 = nn at hnn
  refine calls_W (args := [i64 z0, .slice a zs.length cap]) Try.func4 rfl Try.ntmps4 rfl ?_
  refine W_seq ?_
  refine W_region rfl ?_
  refine L_val rfl (x_assign (by conv => lhs; whnf)) ?_
  refine L_nil ?_
  refine W_seq ?_
  refine W_region rfl ?_
  refine L_val rfl (x_move (by conv => lhs; whnf)) ?_
  refine L_val rfl (x_conv kd3 kd36 rfl hnz) ?_
  refine L_val rfl (x_rem rfl rfl (by decide) (tm (c := ((nn : Nat) : Int)) (by omega) (by omega) (by omega))) ?_
  refine L_val rfl (x_conv kd36 kd3 rfl (wr64 (c := ((nn : Nat) : Int)) (by omega) (by omega) (by omega))) ?_
  refine L_val rfl (x_assign (by conv => lhs; whnf)) ?_
  refine L_nil ?_
  refine W_seq ?_
  refine W_region rfl ?_
  refine L_val rfl (x_move (by conv => lhs; whnf)) ?_
  refine L_call rfl (x_call ok5) (f5_new (n := nn) (by omega)) (fun v w1 ⟨bd, bs, bm, hv, hbd, hbs, hbm, hD1, hc1⟩ => ?_)
  subst hv
  refine L_val rfl (x_move (by conv => lhs; whnf)) ?_
  refine L_val rfl (x_extract rfl rfl) ?_
  refine L_val rfl (x_extract rfl rfl) ?_
  refine L_val rfl (x_assign (by conv => lhs; whnf)) ?_
  refine L_val rfl (x_assign (by conv => lhs; whnf)) ?_
  refine L_nil ?_
  refine W_seq ?_
  refine W_seq ?_
  refine W_region rfl ?_
  refine L_val rfl (x_move (by conv => lhs; whnf)) ?_
  refine L_val rfl (x_neq rfl rfl rfl) ?_
  refine L_val rfl (x_move (by conv => lhs; whnf)) ?_
  refine L_val rfl (x_move (by conv => lhs; whnf)) ?_
  refine L_val rfl (x_eqlNil pt24 rfl rfl) ?_
  refine L_val rfl (x_pick_f rfl (by conv => lhs; whnf)) ?_
  refine L_nil ?_
  refine W_false rfl ?_
  refine W_skip ?_
  refine W_seq ?_
  refine W_region rfl ?_
  refine L_val rfl (x_move (by conv => lhs; whnf)) ?_
  refine L_call rfl (x_call ok7) (f7_open hD1 (fun i _ => zero64_inB) (by omega)) (fun v w2 ⟨bl, vout, xs, k, u, vs, hv, hr, hbl, hlog, hown, hrecs, hD2, hc2⟩ => ?_)
  subst hv
  obtain ⟨rfl, rfl, rfl⟩ := runs_det hr (.stop (good_zero (fun _ => rfl)))
  have hS2 := St.opened (fun i hi => hD1.lenC hi) (fun i _ => zero64_inB) hr hD2 hlog
  obtain ⟨va, vcap, rfl⟩ := own_slice hown
  refine L_val rfl (x_move (by conv => lhs; whnf)) ?_
  refine L_val rfl (x_extract rfl rfl) ?_
  refine L_val rfl (x_extract rfl rfl) ?_
  refine L_val rfl (x_extract rfl rfl) ?_
  refine L_val rfl (x_assign (by conv => lhs; whnf)) ?_
  refine L_val rfl (x_assign (by conv => lhs; whnf)) ?_
  refine L_val rfl (x_assign (by conv => lhs; whnf)) ?_
  refine L_nil ?_
  refine W_seq ?_
  refine W_seq ?_
  refine W_region rfl ?_
  refine L_val rfl (x_move (by conv => lhs; whnf)) ?_
  refine L_val rfl (x_neq rfl rfl rfl) ?_
  refine L_val rfl (x_move (by conv => lhs; whnf)) ?_
  refine L_val rfl (x_move (by conv => lhs; whnf)) ?_
  refine L_val rfl (x_eqlNil pt28 rfl rfl) ?_
  refine L_val rfl (x_pick_f rfl (by conv => lhs; whnf)) ?_
  refine L_nil ?_
  refine W_false rfl ?_
  refine W_skip ?_
  refine W_seq ?_
  refine W_region rfl ?_
  refine L_val rfl (x_assign (by conv => lhs; whnf)) ?_
  refine L_val rfl (x_assign (by conv => lhs; whnf)) ?_
  refine L_nil ?_
  refine W_seq ?_
  refine W_seq ?_
  refine W_region rfl ?_
  refine L_val rfl (x_assign (by conv => lhs; whnf)) ?_
  refine L_nil ?_
  refine W_block ?_
  have hbl' : w.heap.size ≤ bl := Nat.le_trans hc1.size hbl
  refine W_loop (fun m f w1 => ∃ i u k recs S D, i ≤ zs.length ∧ m = zs.length - i ∧ Frm f [(1, .slice a zs.length cap), (5, i64 (nn : Nat)), (6, ptr bd 0), (8, ptr bl 0), (11, i64 (u : Nat)), (12, i64 (k : Nat)), (13, i64 (i : Nat))] ∧ St w1 bd bs bm bl nn S D recs k u ∧ Chg [] w w1) zs.length
    ⟨0, 0, 0, _, _, _, by omega, rfl, ⟨rfl, rfl, rfl, rfl, rfl, rfl, rfl, trivial⟩, hS2, hc1.out hc2 (by simp; omega)⟩ (fun m f w3 hI => ?_)
  obtain ⟨i, u, k, recs, S, D, hi, rfl, hF, hS, hc3⟩ := hI
  obtain ⟨g, rfl⟩ := hF.eta
  have hule := hS.ule
  have hkle := hS.kle
  refine W_seq ?_
  refine W_seq ?_
  refine W_region rfl ?_
  refine L_val rfl (x_move (by conv => lhs; whnf)) ?_
  refine L_val rfl (x_move (by conv => lhs; whnf)) ?_
  refine L_val rfl (x_len el23 rfl) ?_
  by_cases hc1 : i < zs.length
  · refine L_val rfl (x_lss rfl rfl (decide_eq_true (by omega))) ?_
    refine L_val rfl (x_move (by conv => lhs; whnf)) ?_
    refine L_val rfl (x_move (by conv => lhs; whnf)) ?_
    by_cases hc2 : i < 30
    · refine L_val rfl (x_lss rfl rfl (decide_eq_true (by omega))) ?_
      refine L_val rfl (x_pick_t rfl (by conv => lhs; whnf)) ?_
      refine L_nil ?_
      refine W_true rfl ?_
      refine W_skip ?_
      obtain ⟨b, o, cap', hv', _, _, hcx⟩ := (hx.chg0 hc3).some (by omega)
      simp only [Value.slice.injEq] at hv'
      obtain ⟨rfl, -, rfl⟩ := hv'
      obtain ⟨mz, hmz⟩ := wrapU (at' zs i)
      have hmm : 1 ≤ 1 + mz % 400 ∧ 1 + mz % 400 ≤ 400 := by omega
      generalize hmm0 : 1 + mz % 400 = mm at hmm
      refine W_seq ?_
      refine W_block ?_
      refine W_seq ?_
      refine W_region rfl ?_
      refine L_val rfl (x_move (by conv => lhs; whnf)) ?_
      refine L_val rfl (x_move (by conv => lhs; whnf)) ?_
      refine L_val rfl (x_index el23 (i := i) rfl rfl (by omega)) ?_
      refine L_val rfl (x_load sc3 rfl (hcx i _ (by omega) (by omega))) ?_
      refine L_val rfl (x_conv kd3 kd36 rfl hmz) ?_
      refine L_val rfl (x_rem rfl rfl (by decide) (tm (c := ((mz % 400 : Nat) : Int)) (by omega) (by omega) (by omega))) ?_
      refine L_val rfl (x_conv kd36 kd3 rfl (wr64 (c := ((mz % 400 : Nat) : Int)) (by omega) (by omega) (by omega))) ?_
      refine L_val rfl (x_add rfl rfl (wr64 (c := ((mm : Nat) : Int)) (by omega) (by omega) (by omega))) ?_
      refine L_val rfl (x_assign (by conv => lhs; whnf)) ?_
      refine L_nil ?_
      refine W_seq ?_
      refine W_region rfl ?_
      refine L_val rfl (x_move (by conv => lhs; whnf)) ?_
      refine L_val rfl (x_add rfl rfl (wr64 (c := ((mm + 12 : Nat) : Int)) (by omega) (by omega) (by omega))) ?_
      refine L_val rfl (x_add rfl rfl (wr64 (c := ((mm + 75 : Nat) : Int)) (by omega) (by omega) (by omega))) ?_
      refine L_val rfl (x_quo rfl rfl (by omega) (quo64 (c := (((mm + 75) / 64 : Nat) : Int)) (by omega) (by omega) (by omega) (by omega))) ?_
      refine L_val rfl (x_assign (by conv => lhs; whnf)) ?_
      refine L_nil ?_
      refine W_seq ?_
      refine W_region rfl ?_
      refine L_val rfl (x_move (by conv => lhs; whnf)) ?_
      refine L_val rfl (x_move (by conv => lhs; whnf)) ?_
      refine L_makeBytes (m := mm) rfl rfl rfl (by omega) (fun w4 hb4 hc4 hs4 => ?_)
      have hS4 := hS.chg0 hc4
      have hz4 := zeros_bt hb4 (by omega)
      have hc34 : Chg [] w w4 := hc3.out hc4 (by simp)
      by_cases hfit : u + (mm + 75) / 64 ≤ nn
      · have hput := put_ok hS4 (by omega) hz4 (inB_zeros mm) (by simp; omega) (by simp; omega) (by simpa using hfit)
        simp only [List.length_replicate] at hput
        refine L_call rfl (x_call ok12) hput (fun v w5 ⟨hv, hS5, hc5⟩ => ?_)
        subst hv
        refine L_val rfl (x_assign (by conv => lhs; whnf)) ?_
        refine L_nil ?_
        refine W_seq ?_
        refine W_seq ?_
        refine W_region rfl ?_
        refine L_val rfl (x_move (by conv => lhs; whnf)) ?_
        refine L_val rfl (x_eql rfl rfl rfl) ?_
        refine L_val rfl (x_move (by conv => lhs; whnf)) ?_
        refine L_val rfl (x_move (by conv => lhs; whnf)) ?_
        refine L_val rfl (x_move (by conv => lhs; whnf)) ?_
        refine L_val rfl (x_sub rfl rfl (wr64 (c := ((nn - u : Nat) : Int)) (by omega) (by omega) (by omega))) ?_
        refine L_val rfl (x_leq rfl rfl (decide_eq_true (by omega))) ?_
        refine L_val rfl (x_neqB ub4 rfl rfl) ?_
        refine L_val rfl (x_move (by conv => lhs; whnf)) ?_
        refine L_val rfl (x_move (by conv => lhs; whnf)) ?_
        refine L_val rfl (x_neq rfl rfl rfl) ?_
        refine L_val rfl (x_move (by conv => lhs; whnf)) ?_
        refine L_no rfl ?_
        refine L_no rfl ?_
        refine L_val rfl (x_pick_f rfl (by conv => lhs; whnf)) ?_
        refine L_val rfl (x_pick_f rfl (by conv => lhs; whnf)) ?_
        refine L_nil ?_
        refine W_false rfl ?_
        refine W_skip ?_
        refine W_seq ?_
        refine W_seq ?_
        refine W_region rfl ?_
        refine L_val rfl (x_move (by conv => lhs; whnf)) ?_
        refine L_val rfl (x_eql rfl rfl rfl) ?_
        refine L_nil ?_
        refine W_true rfl ?_
        refine W_region rfl ?_
        refine L_val rfl (x_move (by conv => lhs; whnf)) ?_
        refine L_val rfl (x_move (by conv => lhs; whnf)) ?_
        refine L_val rfl (x_add rfl rfl (wr64 (c := ((u + (mm + 75) / 64 : Nat) : Int)) (by omega) (by omega) (by omega))) ?_
        refine L_val rfl (x_move (by conv => lhs; whnf)) ?_
        refine L_val rfl (x_add rfl rfl (wr64 (c := ((k + 1 : Nat) : Int)) (by omega) (by omega) (by omega))) ?_
        refine L_val rfl (x_assign (by conv => lhs; whnf)) ?_
        refine L_val rfl (x_assign (by conv => lhs; whnf)) ?_
        refine L_nil ?_
        refine W_seq ?_
        refine W_region rfl ?_
        refine L_val rfl (x_move (by conv => lhs; whnf)) ?_
        refine L_enterQ rfl (x_call ok18) (f18_used hS5.log) ?_
        refine L_val rfl (x_move (by conv => lhs; whnf)) ?_
        refine L_val rfl (x_neq rfl rfl (decide_eq_true rfl)) ?_
        refine L_val rfl (x_move (by conv => lhs; whnf)) ?_
        refine L_val rfl (x_move (by conv => lhs; whnf)) ?_
        refine L_enterQ rfl (x_call ok19) (f19_len hS5.log) ?_
        refine L_val rfl (x_move (by conv => lhs; whnf)) ?_
        refine L_val rfl (x_neq rfl rfl (decide_eq_true rfl)) ?_
        refine L_val rfl (x_pick_f rfl (by conv => lhs; whnf)) ?_
        refine L_nil ?_
        refine W_false rfl ?_
        refine W_skip ?_
        refine W_region rfl ?_
        refine L_val rfl (x_move (by conv => lhs; whnf)) ?_
        refine L_val rfl (x_add rfl rfl (wr64 (c := ((i + 1 : Nat) : Int)) (by omega) (by omega) (by omega))) ?_
        refine L_val rfl (x_assign (by conv => lhs; whnf)) ?_
        refine L_nil ?_
        exact ⟨zs.length - (i + 1), by omega, i + 1, u + (mm + 75) / 64, k + 1, _, _, _, by omega, rfl, ⟨rfl, rfl, rfl, rfl, rfl, rfl, rfl, trivial⟩, hS5, hc34.out hc5 (by simp; omega)⟩
      · have hput := put_full hS4 (by omega) hz4 (by simp; omega) (by simp; omega) (by simp; omega)
        refine L_call rfl (x_call ok12) hput (fun v w5 ⟨hv, hc5⟩ => ?_)
        subst hv
        have hS5 := hS4.chg0 hc5
        refine L_val rfl (x_assign (by conv => lhs; whnf)) ?_
        refine L_nil ?_
        refine W_seq ?_
        refine W_seq ?_
        refine W_region rfl ?_
        refine L_val rfl (x_move (by conv => lhs; whnf)) ?_
        refine L_val rfl (x_eql rfl rfl rfl) ?_
        refine L_val rfl (x_move (by conv => lhs; whnf)) ?_
        refine L_val rfl (x_move (by conv => lhs; whnf)) ?_
        refine L_val rfl (x_move (by conv => lhs; whnf)) ?_
        refine L_val rfl (x_sub rfl rfl (wr64 (c := ((nn - u : Nat) : Int)) (by omega) (by omega) (by omega))) ?_
        refine L_val rfl (x_leq rfl rfl (decide_eq_false (by omega))) ?_
        refine L_val rfl (x_neqB ub4 rfl rfl) ?_
        refine L_val rfl (x_move (by conv => lhs; whnf)) ?_
        refine L_val rfl (x_move (by conv => lhs; whnf)) ?_
        refine L_val rfl (x_neq rfl rfl rfl) ?_
        refine L_val rfl (x_move (by conv => lhs; whnf)) ?_
        refine L_val rfl (x_move (by conv => lhs; whnf)) ?_
        refine L_val rfl (x_neq rfl rfl rfl) ?_
        refine L_val rfl (x_pick_t rfl (by conv => lhs; whnf)) ?_
        refine L_val rfl (x_pick_f rfl (by conv => lhs; whnf)) ?_
        refine L_nil ?_
        refine W_false rfl ?_
        refine W_skip ?_
        refine W_seq ?_
        refine W_seq ?_
        refine W_region rfl ?_
        refine L_val rfl (x_move (by conv => lhs; whnf)) ?_
        refine L_val rfl (x_eql rfl rfl rfl) ?_
        refine L_nil ?_
        refine W_false rfl ?_
        refine W_skip ?_
        refine W_seq ?_
        refine W_region rfl ?_
        refine L_val rfl (x_move (by conv => lhs; whnf)) ?_
        refine L_enterQ rfl (x_call ok18) (f18_used hS5.log) ?_
        refine L_val rfl (x_move (by conv => lhs; whnf)) ?_
        refine L_val rfl (x_neq rfl rfl (decide_eq_true rfl)) ?_
        refine L_val rfl (x_move (by conv => lhs; whnf)) ?_
        refine L_val rfl (x_move (by conv => lhs; whnf)) ?_
        refine L_enterQ rfl (x_call ok19) (f19_len hS5.log) ?_
        refine L_val rfl (x_move (by conv => lhs; whnf)) ?_
        refine L_val rfl (x_neq rfl rfl (decide_eq_true rfl)) ?_
        refine L_val rfl (x_pick_f rfl (by conv => lhs; whnf)) ?_
        refine L_nil ?_
        refine W_false rfl ?_
        refine W_skip ?_
        refine W_region rfl ?_
        refine L_val rfl (x_move (by conv => lhs; whnf)) ?_
        refine L_val rfl (x_add rfl rfl (wr64 (c := ((i + 1 : Nat) : Int)) (by omega) (by omega) (by omega))) ?_
        refine L_val rfl (x_assign (by conv => lhs; whnf)) ?_
        refine L_nil ?_
        exact ⟨zs.length - (i + 1), by omega, i + 1, u, k, _, _, _, by omega, rfl, ⟨rfl, rfl, rfl, rfl, rfl, rfl, rfl, trivial⟩, hS5, hc34.out hc5 (by simp)⟩
    · refine L_val rfl (x_lss rfl rfl (decide_eq_false (by omega))) ?_
      refine L_val rfl (x_pick_t rfl (by conv => lhs; whnf)) ?_
      refine L_nil ?_
      refine W_false rfl ?_
      refine W_exit ?_
      have hrl := hS.runs.le (fun i hi => hS.dk.lenC hi) (Nat.zero_le _)
      refine W_seq ?_
      refine W_region rfl ?_
      refine L_val rfl (x_move (by conv => lhs; whnf)) ?_
      refine L_call rfl (x_call ok7) (f7_open hS.dk hS.inb (by omega)) (fun v w10 ⟨bl2, vout2, xs2, k2, u2, vs2, hv, hr2, hbl2, hlog2, hown2, hrecs2, hD10, hc10⟩ => ?_)
      subst hv
      obtain ⟨rfl, rfl, rfl⟩ := runs_det hr2 hS.runs
      have hvl2 := hrecs2.len
      obtain ⟨va2, vcap2, rfl⟩ := own_slice hown2
      have hne := lg_ne hS.dk hS.log
      have hlogA := hc10.at hS.log (by simp; omega)
      have hall := hc3.out hc10 (by simp; omega)
      refine L_val rfl (x_move (by conv => lhs; whnf)) ?_
      refine L_val rfl (x_extract rfl rfl) ?_
      refine L_val rfl (x_extract rfl rfl) ?_
      refine L_val rfl (x_extract rfl rfl) ?_
      refine L_val rfl (x_assign (by conv => lhs; whnf)) ?_
      refine L_val rfl (x_assign (by conv => lhs; whnf)) ?_
      refine L_val rfl (x_assign (by conv => lhs; whnf)) ?_
      refine L_nil ?_
      refine W_seq ?_
      refine W_region rfl ?_
      refine L_val rfl (x_assign (by conv => lhs; whnf)) ?_
      refine L_nil ?_
      refine W_seq ?_
      refine W_region rfl ?_
      refine L_val rfl (x_move (by conv => lhs; whnf)) ?_
      refine L_call rfl (x_call ok10) (f10_nil w10) (fun v w11 hw11 => ?_)
      subst hw11
      refine L_nil ?_
      refine W_seq ?_
      refine W_region rfl ?_
      refine L_call rfl (x_call ok6) (f6_told _) (fun v w12 ⟨hv, hc12⟩ => ?_)
      subst hv
      refine L_val rfl (x_move (by conv => lhs; whnf)) ?_
      refine L_val rfl (x_move (by conv => lhs; whnf)) ?_
      refine L_val rfl (x_eql rfl rfl rfl) ?_
      refine L_val rfl (x_pick_t rfl (by conv => lhs; whnf)) ?_
      refine L_val rfl (x_move (by conv => lhs; whnf)) ?_
      refine L_val rfl (x_move (by conv => lhs; whnf)) ?_
      refine L_val rfl (x_len el22 rfl) ?_
      refine L_val rfl (x_move (by conv => lhs; whnf)) ?_
      refine L_val rfl (x_eql rfl rfl (decide_eq_true (by omega))) ?_
      refine L_val rfl (x_pick_t rfl (by conv => lhs; whnf)) ?_
      refine L_val rfl (x_move (by conv => lhs; whnf)) ?_
      refine L_val rfl (x_move (by conv => lhs; whnf)) ?_
      refine L_makeBytes (m := 20001) rfl rfl rfl (by decide) (fun w13 hb13 hc13 hs13 => ?_)
      have hput := f12_put ((hD10.chg0 hc12).chg0 hc13) (hc13.at (hc12.at hlogA (by simp)) (by simp)) (zeros_bt hb13 (by decide)) (by simp) (by omega) (by omega) (by omega)
      refine L_call rfl (x_call ok12) hput (fun v w14 hv => ?_)
      simp only [List.length_replicate] at hv
      rw [if_pos (by omega)] at hv
      obtain ⟨rfl, hc14⟩ := hv
      refine L_val rfl (x_eql rfl rfl rfl) ?_
      refine L_val rfl (x_pick_t rfl (by conv => lhs; whnf)) ?_
      refine L_val rfl (x_move (by conv => lhs; whnf)) ?_
      refine L_val rfl (x_move (by conv => lhs; whnf)) ?_
      refine L_new rfl (x_buildSlice rfl (run_buildSliceN (cells := L8 [97]) e1_37 (by decide) (by decide) (by kernel_rfl))) ?_
      refine L_new rfl (x_convR rfl (Lib.run_convert_bytes_const w14 37 5 (L8 [97]) 1 1 (elemOfT_spec el37).1 (kindOf_spec kd5))) ?_
      generalize hw15 : w14.alloc (.cells (L8 [97]) 5 ((L8 [97]).size, (L8 [97]).size + 1)) = w15
      have hc15 : Chg [] w14 w15 := by subst hw15; exact Chg.alloc _ _ _
      refine L_call rfl (x_call ok12) (f12_nil w15 _) (fun v w16 ⟨hv, hc16⟩ => ?_)
      subst hv
      refine L_val rfl (x_eql rfl rfl rfl) ?_
      refine L_val rfl (x_pick_t rfl (by conv => lhs; whnf)) ?_
      refine L_val rfl (x_move (by conv => lhs; whnf)) ?_
      refine L_val rfl (x_move (by conv => lhs; whnf)) ?_
      refine L_enterQ rfl (x_call ok19) (f19_nil _) ?_
      refine L_val rfl (x_eql rfl rfl rfl) ?_
      refine L_val rfl (x_pick_t rfl (by conv => lhs; whnf)) ?_
      refine L_val rfl (x_move (by conv => lhs; whnf)) ?_
      refine L_val rfl (x_move (by conv => lhs; whnf)) ?_
      refine L_enterQ rfl (x_call ok18) (f18_nil _) ?_
      refine L_val rfl (x_eql rfl rfl rfl) ?_
      refine L_val rfl (x_pick_t rfl (by conv => lhs; whnf)) ?_
      refine L_val rfl (x_assign (by conv => lhs; whnf)) ?_
      refine L_nil ?_
      refine W_ret ?_
      exact res1 rfl rfl ⟨rfl, ((((hall.out hc12 (by simp)).out hc13 (by simp)).out hc14 (by simp)).out hc15 (by simp)).out hc16 (by simp)⟩
  · refine L_val rfl (x_lss rfl rfl (decide_eq_false (by omega))) ?_
    refine L_val rfl (x_move (by conv => lhs; whnf)) ?_
    refine L_no rfl ?_
    refine L_no rfl ?_
    refine L_val rfl (x_pick_f rfl (by conv => lhs; whnf)) ?_
    refine L_nil ?_
    refine W_false rfl ?_
    refine W_exit ?_
    have hrl := hS.runs.le (fun i hi => hS.dk.lenC hi) (Nat.zero_le _)
    refine W_seq ?_
    refine W_region rfl ?_
    refine L_val rfl (x_move (by conv => lhs; whnf)) ?_
    refine L_call rfl (x_call ok7) (f7_open hS.dk hS.inb (by omega)) (fun v w10 ⟨bl2, vout2, xs2, k2, u2, vs2, hv, hr2, hbl2, hlog2, hown2, hrecs2, hD10, hc10⟩ => ?_)
    subst hv
    obtain ⟨rfl, rfl, rfl⟩ := runs_det hr2 hS.runs
    have hvl2 := hrecs2.len
    obtain ⟨va2, vcap2, rfl⟩ := own_slice hown2
    have hne := lg_ne hS.dk hS.log
    have hlogA := hc10.at hS.log (by simp; omega)
    have hall := hc3.out hc10 (by simp; omega)
    refine L_val rfl (x_move (by conv => lhs; whnf)) ?_
    refine L_val rfl (x_extract rfl rfl) ?_
    refine L_val rfl (x_extract rfl rfl) ?_
    refine L_val rfl (x_extract rfl rfl) ?_
    refine L_val rfl (x_assign (by conv => lhs; whnf)) ?_
    refine L_val rfl (x_assign (by conv => lhs; whnf)) ?_
    refine L_val rfl (x_assign (by conv => lhs; whnf)) ?_
    refine L_nil ?_
    refine W_seq ?_
    refine W_region rfl ?_
    refine L_val rfl (x_assign (by conv => lhs; whnf)) ?_
    refine L_nil ?_
    refine W_seq ?_
    refine W_region rfl ?_
    refine L_val rfl (x_move (by conv => lhs; whnf)) ?_
    refine L_call rfl (x_call ok10) (f10_nil w10) (fun v w11 hw11 => ?_)
    subst hw11
    refine L_nil ?_
    refine W_seq ?_
    refine W_region rfl ?_
    refine L_call rfl (x_call ok6) (f6_told _) (fun v w12 ⟨hv, hc12⟩ => ?_)
    subst hv
    refine L_val rfl (x_move (by conv => lhs; whnf)) ?_
    refine L_val rfl (x_move (by conv => lhs; whnf)) ?_
    refine L_val rfl (x_eql rfl rfl rfl) ?_
    refine L_val rfl (x_pick_t rfl (by conv => lhs; whnf)) ?_
    refine L_val rfl (x_move (by conv => lhs; whnf)) ?_
    refine L_val rfl (x_move (by conv => lhs; whnf)) ?_
    refine L_val rfl (x_len el22 rfl) ?_
    refine L_val rfl (x_move (by conv => lhs; whnf)) ?_
    refine L_val rfl (x_eql rfl rfl (decide_eq_true (by omega))) ?_
    refine L_val rfl (x_pick_t rfl (by conv => lhs; whnf)) ?_
    refine L_val rfl (x_move (by conv => lhs; whnf)) ?_
    refine L_val rfl (x_move (by conv => lhs; whnf)) ?_
    refine L_makeBytes (m := 20001) rfl rfl rfl (by decide) (fun w13 hb13 hc13 hs13 => ?_)
    have hput := f12_put ((hD10.chg0 hc12).chg0 hc13) (hc13.at (hc12.at hlogA (by simp)) (by simp)) (zeros_bt hb13 (by decide)) (by simp) (by omega) (by omega) (by omega)
    refine L_call rfl (x_call ok12) hput (fun v w14 hv => ?_)
    simp only [List.length_replicate] at hv
    rw [if_pos (by omega)] at hv
    obtain ⟨rfl, hc14⟩ := hv
    refine L_val rfl (x_eql rfl rfl rfl) ?_
    refine L_val rfl (x_pick_t rfl (by conv => lhs; whnf)) ?_
    refine L_val rfl (x_move (by conv => lhs; whnf)) ?_
    refine L_val rfl (x_move (by conv => lhs; whnf)) ?_
    refine L_new rfl (x_buildSlice rfl (run_buildSliceN (cells := L8 [97]) e1_37 (by decide) (by decide) (by kernel_rfl))) ?_
    refine L_new rfl (x_convR rfl (Lib.run_convert_bytes_const w14 37 5 (L8 [97]) 1 1 (elemOfT_spec el37).1 (kindOf_spec kd5))) ?_
    generalize hw15 : w14.alloc (.cells (L8 [97]) 5 ((L8 [97]).size, (L8 [97]).size + 1)) = w15
    have hc15 : Chg [] w14 w15 := by subst hw15; exact Chg.alloc _ _ _
    refine L_call rfl (x_call ok12) (f12_nil w15 _) (fun v w16 ⟨hv, hc16⟩ => ?_)
    subst hv
    refine L_val rfl (x_eql rfl rfl rfl) ?_
    refine L_val rfl (x_pick_t rfl (by conv => lhs; whnf)) ?_
    refine L_val rfl (x_move (by conv => lhs; whnf)) ?_
    refine L_val rfl (x_move (by conv => lhs; whnf)) ?_
    refine L_enterQ rfl (x_call ok19) (f19_nil _) ?_
    refine L_val rfl (x_eql rfl rfl rfl) ?_
    refine L_val rfl (x_pick_t rfl (by conv => lhs; whnf)) ?_
    refine L_val rfl (x_move (by conv => lhs; whnf)) ?_
    refine L_val rfl (x_move (by conv => lhs; whnf)) ?_
    refine L_enterQ rfl (x_call ok18) (f18_nil _) ?_
    refine L_val rfl (x_eql rfl rfl rfl) ?_
    refine L_val rfl (x_pick_t rfl (by conv => lhs; whnf)) ?_
    refine L_val rfl (x_assign (by conv => lhs; whnf)) ?_
    refine L_nil ?_
    refine W_ret ?_
    exact res1 rfl rfl ⟨rfl, ((((hall.out hc12 (by simp)).out hc13 (by simp)).out hc14 (by simp)).out hc15 (by simp)).out hc16 (by simp)⟩
end Go.Proofs.Ytinoebjhcmeppaa
