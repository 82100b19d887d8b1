/- The walk of the law WalKeeps. -/
import Derived.Test.YtinoebjhcmeppaaKeepA
namespace Go.Proofs.Ytinoebjhcmeppaa
open E Sha
set_option maxRecDepth 100000
set_option maxHeartbeats 8000000

theorem wrapU2 (z : Int) : ∃ a : Nat, IntKind.u64.wrap z = (a : Int) ∧ a < 18446744073709551616 := by
  refine ⟨(IntKind.u64.wrap z).toNat, ?_⟩
  have h : IntKind.u64.wrap z = z % 18446744073709551616 := rfl
  rw [h]; omega
theorem f3_keeps {w : World} {lv kv mv' : Value} {lvs mvs : List Value} {ls ms : List (List Int)} {keep : List Int} (sy torn m : Int) (hl : Rw w lv lvs) (hls : Rs w lvs ls) (hlb : ∀ z ∈ ls, InB z)
    (hk : Rw w kv (keep.map i64)) (hm : Rw w mv' mvs) (hms : Rs w mvs ms) (hmb : ∀ z ∈ ms, InB z) :
    Calls Try.prog 3 #[lv, i64 sy, kv, i64 torn, i64 m, mv'] w (Rv fun v w' => v = .bool true ∧ Chg [] w w') := by
  have hmx := max_big
  have hmx2 : maxLen ≤ 9223372036854775807 := by decide
  obtain ⟨al, capl, rfl⟩ := hl.len
  obtain ⟨am, capm, rfl⟩ := hm.len
  obtain ⟨ak, capk, rfl⟩ := hk.is
  have hll := hls.len
  have hml := hms.len
  have hkl := hk.lens
  have hcl : lvs.length ≤ capl ∧ capl ≤ maxLen := by obtain ⟨_, _, hq, h1, h2, _⟩ := hl; simp only [Value.slice.injEq] at hq; omega
  have hcm : mvs.length ≤ capm ∧ capm ≤ maxLen := by obtain ⟨_, _, hq, h1, h2, _⟩ := hm; simp only [Value.slice.injEq] at hq; omega
  refine calls_W (args := [.slice al lvs.length capl, i64 sy, .slice ak keep.length capk, i64 torn, i64 m, .slice am mvs.length capm]) Try.func3 rfl Try.ntmps3 rfl ?_
  refine W_seq ?_
  refine W_region rfl ?_
  refine L_val rfl (x_assign (by conv => lhs; whnf)) ?_
  refine L_nil ?_
  refine W_seq ?_
  refine W_region rfl ?_
  refine L_call rfl (x_call ok5) (f5_new (n := 60) (by decide)) (fun v1 w1 ⟨bd, bs, bm, hv1, hbd, hbs, hbm, hD1, hc1⟩ => ?_)
  subst hv1
  refine L_val rfl (x_move (by conv => lhs; whnf)) ?_
  refine L_val rfl (x_extract rfl rfl) ?_
  refine L_val rfl (x_extract rfl rfl) ?_
  refine L_val rfl (x_assign (by conv => lhs; whnf)) ?_
  refine L_val rfl (x_assign (by conv => lhs; whnf)) ?_
  refine L_nil ?_
  refine W_seq ?_
  refine W_seq ?_
  refine W_region rfl ?_
  refine L_val rfl (x_move (by conv => lhs; whnf)) ?_
  refine L_val rfl (x_neq rfl rfl rfl) ?_
  refine L_val rfl (x_move (by conv => lhs; whnf)) ?_
  refine L_val rfl (x_move (by conv => lhs; whnf)) ?_
  refine L_val rfl (x_eqlNil pt24 rfl rfl) ?_
  refine L_val rfl (x_pick_f rfl (by conv => lhs; whnf)) ?_
  refine L_nil ?_
  refine W_false rfl ?_
  refine W_skip ?_
  refine W_seq ?_
  refine W_seq ?_
  by_cases hL12 : 12 < lvs.length
  · refine W_region rfl ?_
    refine L_val rfl (x_move (by conv => lhs; whnf)) ?_
    refine L_val rfl (x_len el22 rfl) ?_
    refine L_val rfl (x_gtr rfl rfl (decide_eq_true (by omega))) ?_
    refine L_val rfl (x_move (by conv => lhs; whnf)) ?_
    refine L_no rfl ?_
    refine L_no rfl ?_
    refine L_no rfl ?_
    refine L_val rfl (x_pick_t rfl (by conv => lhs; whnf)) ?_
    refine L_val rfl (x_move (by conv => lhs; whnf)) ?_
    refine L_no rfl ?_
    refine L_no rfl ?_
    refine L_no rfl ?_
    refine L_val rfl (x_pick_t rfl (by conv => lhs; whnf)) ?_
    refine L_nil ?_
    refine W_true rfl ?_
    refine W_seq ?_
    refine W_region rfl ?_
    refine L_call rfl (x_call ok6) (f6_told _) (fun vT wT ⟨hvT, hcT⟩ => ?_)
    subst hvT
    refine L_val rfl (x_assign (by conv => lhs; whnf)) ?_
    refine L_nil ?_
    refine W_ret ?_
    exact res1 rfl rfl ⟨rfl, (hc1).trans0 hcT⟩
  by_cases hM6 : 6 < mvs.length
  · refine W_region rfl ?_
    refine L_val rfl (x_move (by conv => lhs; whnf)) ?_
    refine L_val rfl (x_len el22 rfl) ?_
    refine L_val rfl (x_gtr rfl rfl (decide_eq_false (by omega))) ?_
    refine L_val rfl (x_move (by conv => lhs; whnf)) ?_
    refine L_val rfl (x_move (by conv => lhs; whnf)) ?_
    refine L_val rfl (x_len el22 rfl) ?_
    refine L_val rfl (x_gtr rfl rfl (decide_eq_true (by omega))) ?_
    refine L_val rfl (x_pick_f rfl (by conv => lhs; whnf)) ?_
    refine L_val rfl (x_move (by conv => lhs; whnf)) ?_
    refine L_no rfl ?_
    refine L_no rfl ?_
    refine L_no rfl ?_
    refine L_val rfl (x_pick_t rfl (by conv => lhs; whnf)) ?_
    refine L_nil ?_
    refine W_true rfl ?_
    refine W_seq ?_
    refine W_region rfl ?_
    refine L_call rfl (x_call ok6) (f6_told _) (fun vT wT ⟨hvT, hcT⟩ => ?_)
    subst hvT
    refine L_val rfl (x_assign (by conv => lhs; whnf)) ?_
    refine L_nil ?_
    refine W_ret ?_
    exact res1 rfl rfl ⟨rfl, (hc1).trans0 hcT⟩
  by_cases hK60 : 60 < keep.length
  · refine W_region rfl ?_
    refine L_val rfl (x_move (by conv => lhs; whnf)) ?_
    refine L_val rfl (x_len el22 rfl) ?_
    refine L_val rfl (x_gtr rfl rfl (decide_eq_false (by omega))) ?_
    refine L_val rfl (x_move (by conv => lhs; whnf)) ?_
    refine L_val rfl (x_move (by conv => lhs; whnf)) ?_
    refine L_val rfl (x_len el22 rfl) ?_
    refine L_val rfl (x_gtr rfl rfl (decide_eq_false (by omega))) ?_
    refine L_val rfl (x_pick_f rfl (by conv => lhs; whnf)) ?_
    refine L_val rfl (x_move (by conv => lhs; whnf)) ?_
    refine L_val rfl (x_move (by conv => lhs; whnf)) ?_
    refine L_val rfl (x_len el23 rfl) ?_
    refine L_val rfl (x_gtr rfl rfl (decide_eq_true (by omega))) ?_
    refine L_val rfl (x_pick_f rfl (by conv => lhs; whnf)) ?_
    refine L_nil ?_
    refine W_true rfl ?_
    refine W_seq ?_
    refine W_region rfl ?_
    refine L_call rfl (x_call ok6) (f6_told _) (fun vT wT ⟨hvT, hcT⟩ => ?_)
    subst hvT
    refine L_val rfl (x_assign (by conv => lhs; whnf)) ?_
    refine L_nil ?_
    refine W_ret ?_
    exact res1 rfl rfl ⟨rfl, (hc1).trans0 hcT⟩
  refine W_region rfl ?_
  refine L_val rfl (x_move (by conv => lhs; whnf)) ?_
  refine L_val rfl (x_len el22 rfl) ?_
  refine L_val rfl (x_gtr rfl rfl (decide_eq_false (by omega))) ?_
  refine L_val rfl (x_move (by conv => lhs; whnf)) ?_
  refine L_val rfl (x_move (by conv => lhs; whnf)) ?_
  refine L_val rfl (x_len el22 rfl) ?_
  refine L_val rfl (x_gtr rfl rfl (decide_eq_false (by omega))) ?_
  refine L_val rfl (x_pick_f rfl (by conv => lhs; whnf)) ?_
  refine L_val rfl (x_move (by conv => lhs; whnf)) ?_
  refine L_val rfl (x_move (by conv => lhs; whnf)) ?_
  refine L_val rfl (x_len el23 rfl) ?_
  refine L_val rfl (x_gtr rfl rfl (decide_eq_false (by omega))) ?_
  refine L_val rfl (x_pick_f rfl (by conv => lhs; whnf)) ?_
  refine L_nil ?_
  refine W_false rfl ?_
  refine W_skip ?_
  refine W_seq ?_
  refine W_region rfl ?_
  refine L_val rfl (x_move (by conv => lhs; whnf)) ?_
  refine L_call rfl (x_call ok7) (f7_open hD1 (fun i _ => zero64_inB) (by decide)) (fun v2 w2 ⟨bl, vout, xs0, k0, u0, vs0, hv2, hr2, hbl, hlog2, hown2, hrecs2, hD2, hc2⟩ => ?_)
  subst hv2
  obtain ⟨rfl, rfl, rfl⟩ := runs_det hr2 (.stop (good_zero (fun _ => rfl)))
  have hS2 := St.opened (fun i hi => hD1.lenC hi) (fun i _ => zero64_inB) hr2 hD2 hlog2
  obtain ⟨va, vcap, rfl⟩ := own_slice hown2
  refine L_val rfl (x_move (by conv => lhs; whnf)) ?_
  refine L_val rfl (x_extract rfl rfl) ?_
  refine L_val rfl (x_extract rfl rfl) ?_
  refine L_val rfl (x_extract rfl rfl) ?_
  refine L_val rfl (x_assign (by conv => lhs; whnf)) ?_
  refine L_val rfl (x_assign (by conv => lhs; whnf)) ?_
  refine L_val rfl (x_assign (by conv => lhs; whnf)) ?_
  refine L_nil ?_
  refine W_seq ?_
  refine W_seq ?_
  refine W_region rfl ?_
  refine L_val rfl (x_move (by conv => lhs; whnf)) ?_
  refine L_val rfl (x_neq rfl rfl rfl) ?_
  refine L_val rfl (x_move (by conv => lhs; whnf)) ?_
  refine L_val rfl (x_move (by conv => lhs; whnf)) ?_
  refine L_val rfl (x_eqlNil pt28 rfl rfl) ?_
  refine L_val rfl (x_pick_f rfl (by conv => lhs; whnf)) ?_
  refine L_nil ?_
  refine W_false rfl ?_
  refine W_skip ?_
  refine W_seq ?_
  refine W_region rfl ?_
  refine L_call rfl (x_call ok8) (f8_new (n := 60) (by decide)) (fun v3 w3 ⟨bx, br, hv3, hbx, hbr, hX3, hc3⟩ => ?_)
  subst hv3
  refine L_val rfl (x_assign (by conv => lhs; whnf)) ?_
  refine L_nil ?_
  refine W_seq ?_
  refine W_region rfl ?_
  refine L_val rfl (x_move (by conv => lhs; whnf)) ?_
  refine L_call rfl (x_call ok9) (f9_open hX3 (fun i _ => zero64_inB) (by decide)) (fun v4 w4 ⟨by', vouy, xs1, k1, u1, vs1, hv4, hr4, hby, hly4, hown4, hrecs4, hX4, hc4⟩ => ?_)
  subst hv4
  obtain ⟨rfl, rfl, rfl⟩ := runs_det hr4 (.stop (good_zero (fun _ => rfl)))
  obtain ⟨vb, vbcap, rfl⟩ := own_slice hown4
  refine L_val rfl (x_move (by conv => lhs; whnf)) ?_
  refine L_val rfl (x_extract rfl rfl) ?_
  refine L_val rfl (x_extract rfl rfl) ?_
  refine L_val rfl (x_assign (by conv => lhs; whnf)) ?_
  refine L_val rfl (x_assign (by conv => lhs; whnf)) ?_
  refine L_nil ?_
  have hlt2 := hD2.lt
  have hll2 : bl < w2.heap.size := lt_of_at (hlog2 : w2.heap[bl]? = _)
  have hsz3 := hc3.size
  have hsz1 := hc1.size
  have hsz2 := hc2.size
  have hap : Ap bd bs bm bl bx br by' w2.heap.size := ⟨hlt2.1, hlt2.2.1, hlt2.2.2, hll2, hbx, hbr, by omega⟩
  have hC4 : Chg [] w w4 := ((hc1.out hc2 (by simp; omega)).trans0 hc3).out hc4 (by simp; omega)
  have hJ4 : Jn w4 bd bs bm bl bx br by' (fun i => if i < 0 then cur (fun _ => List.replicate 64 0) (fun _ => none) i else zero64) (fun _ => none) [] 0 0 := ⟨(hS2.chg0 hc3).chg hc4 (by simp; omega) (by simp; omega) (by simp; omega) (by simp; omega), hX4.same (fun i _ => rfl) (fun i _ => rfl) (fun i _ => rfl), hly4, fun i _ => zero64_inB⟩
  have hbase : w.heap.size ≤ bd ∧ w.heap.size ≤ bs ∧ w.heap.size ≤ bm ∧ w.heap.size ≤ bl ∧ w.heap.size ≤ bx ∧ w.heap.size ≤ br ∧ w.heap.size ≤ by' := by omega
  have hs24 : w2.heap.size ≤ w4.heap.size := by have := hc4.size; omega
  clear hS2 hX4 hX3 hD1 hD2 hlog2 hly4 hown2 hown4 hrecs2 hrecs4 hr2 hr4 hc1 hc2 hc3 hc4
  obtain ⟨nz, hnz, hnz2⟩ := wrapU2 sy
  refine W_seq ?_
  refine W_region rfl ?_
  refine L_val rfl (x_move (by conv => lhs; whnf)) ?_
  refine L_val rfl (x_conv kd3 kd36 rfl hnz) ?_
  refine L_val rfl (x_move (by conv => lhs; whnf)) ?_
  refine L_val rfl (x_len el22 rfl) ?_
  refine L_val rfl (x_add rfl rfl (wr64 (c := ((lvs.length + 1 : Nat) : Int)) (by omega) (by omega) (by omega))) ?_
  refine L_val rfl (x_conv kd3 kd36 rfl (wru64 (c := ((lvs.length + 1 : Nat) : Int)) (by omega) (by omega) (by omega))) ?_
  have hkk : nz % (lvs.length + 1) ≤ lvs.length := Nat.lt_succ_iff.1 (Nat.mod_lt _ (Nat.succ_pos _))
  refine L_val rfl (x_rem rfl rfl (by omega) (tm (c := ((nz % (lvs.length + 1) : Nat) : Int)) (by rw [Int.natCast_emod]) (by omega) (by omega))) ?_
  generalize nz % (lvs.length + 1) = kk at *
  refine L_val rfl (x_conv kd36 kd3 rfl (wr64 (c := ((kk : Nat) : Int)) (by omega) (by omega) (by omega))) ?_
  refine L_val rfl (x_assign (by conv => lhs; whnf)) ?_
  refine L_nil ?_
  refine W_cut (I := fun f w5 => ∃ u S D, Frm f [(0, .slice al lvs.length capl), (2, .slice ak keep.length capk), (3, i64 torn), (4, i64 m), (5, .slice am mvs.length capm), (13, ptr bd 0), (15, ptr bl 0), (18, ptr bx 0), (19, ptr by' 0), (21, i64 (kk : Nat))] ∧ Jn w5 bd bs bm bl bx br by' S D ls lvs.length u ∧ (∀ z ∈ ls, z.length ≤ 150) ∧ Chg [] w w5) ?_ (fun f w5 hI => ?_)
  ·
    refine W_seq ?_
    refine W_region rfl ?_
    refine L_val rfl (x_assign (by conv => lhs; whnf)) ?_
    refine L_nil ?_
    refine W_block ?_
    refine W_loop (fun mm f w5 => ∃ i u S D, i ≤ lvs.length ∧ mm = lvs.length - i ∧ Frm f [(0, .slice al lvs.length capl), (2, .slice ak keep.length capk), (3, i64 torn), (4, i64 m), (5, .slice am mvs.length capm), (13, ptr bd 0), (15, ptr bl 0), (18, ptr bx 0), (19, ptr by' 0), (21, i64 (kk : Nat)), (22, i64 (i : Nat))] ∧ Jn w5 bd bs bm bl bx br by' S D (ls.take i) i u ∧ u ≤ 3 * i ∧ (∀ z ∈ ls.take i, z.length ≤ 150) ∧ Chg [] w w5) lvs.length
      ⟨0, 0, _, _, by omega, rfl, ⟨rfl, rfl, rfl, rfl, rfl, rfl, rfl, rfl, rfl, rfl, rfl, trivial⟩, by rw [List.take_zero]; exact hJ4, by omega, by simp, hC4⟩ (fun mm f w5 hI => ?_)
    clear hJ4 hC4
    obtain ⟨i, u, S, D, hi, rfl, hFr, hJ, hu, h150, hC5⟩ := hI
    obtain ⟨g, rfl⟩ := hFr.eta
    refine W_seq ?_
    refine W_seq ?_
    refine W_region rfl ?_
    refine L_val rfl (x_move (by conv => lhs; whnf)) ?_
    refine L_val rfl (x_move (by conv => lhs; whnf)) ?_
    refine L_val rfl (x_len el22 rfl) ?_
    refine L_val rfl (x_lss rfl rfl rfl) ?_
    refine L_nil ?_
    by_cases hcond : i < lvs.length
    · refine W_true (congrArg Value.bool (decide_eq_true (by omega))) ?_
      refine W_skip ?_
      refine W_seq ?_
      refine W_block ?_
      refine W_seq ?_
      refine W_seq ?_
      obtain ⟨v, z, hv, hz, hb⟩ := (hls.chg0 hC5).get (i := i) (by omega)
      obtain ⟨ba, oa, hal, hca⟩ := rw_at (hl.chg0 hC5) hv
      obtain ⟨az, capz, rfl⟩ := hb.is
      have hzin := hlb z (List.mem_of_getElem? hz)
      have hzl := hb.lens
      by_cases hz1 : z.length < 1
      · refine W_region rfl ?_
        refine L_val rfl (x_move (by conv => lhs; whnf)) ?_
        refine L_val rfl (x_move (by conv => lhs; whnf)) ?_
        refine L_val rfl (x_index el22 (i := i) (congrArg (fun q => Value.slice q lvs.length capl) hal) rfl (by omega)) ?_
        refine L_val rfl (x_load sc37 rfl hca) ?_
        refine L_val rfl (x_len el37 rfl) ?_
        refine L_val rfl (x_lss rfl rfl (decide_eq_true (by omega))) ?_
        refine L_val rfl (x_move (by conv => lhs; whnf)) ?_
        refine L_no rfl ?_
        refine L_no rfl ?_
        refine L_no rfl ?_
        refine L_no rfl ?_
        refine L_no rfl ?_
        refine L_no rfl ?_
        refine L_val rfl (x_pick_t rfl (by conv => lhs; whnf)) ?_
        refine L_nil ?_
        refine W_true rfl ?_
        refine W_seq ?_
        refine W_region rfl ?_
        refine L_call rfl (x_call ok6) (f6_told _) (fun vT wT ⟨hvT, hcT⟩ => ?_)
        subst hvT
        refine L_val rfl (x_assign (by conv => lhs; whnf)) ?_
        refine L_nil ?_
        refine W_ret ?_
        exact res1 rfl rfl ⟨rfl, (hC5).trans0 hcT⟩
      by_cases hz2 : 150 < z.length
      · refine W_region rfl ?_
        refine L_val rfl (x_move (by conv => lhs; whnf)) ?_
        refine L_val rfl (x_move (by conv => lhs; whnf)) ?_
        refine L_val rfl (x_index el22 (i := i) (congrArg (fun q => Value.slice q lvs.length capl) hal) rfl (by omega)) ?_
        refine L_val rfl (x_load sc37 rfl hca) ?_
        refine L_val rfl (x_len el37 rfl) ?_
        refine L_val rfl (x_lss rfl rfl (decide_eq_false (by omega))) ?_
        refine L_val rfl (x_move (by conv => lhs; whnf)) ?_
        refine L_val rfl (x_move (by conv => lhs; whnf)) ?_
        refine L_val rfl (x_move (by conv => lhs; whnf)) ?_
        refine L_val rfl (x_index el22 (i := i) (congrArg (fun q => Value.slice q lvs.length capl) hal) rfl (by omega)) ?_
        refine L_val rfl (x_load sc37 rfl hca) ?_
        refine L_val rfl (x_len el37 rfl) ?_
        refine L_val rfl (x_gtr rfl rfl (decide_eq_true (by omega))) ?_
        refine L_val rfl (x_pick_f rfl (by conv => lhs; whnf)) ?_
        refine L_nil ?_
        refine W_true rfl ?_
        refine W_seq ?_
        refine W_region rfl ?_
        refine L_call rfl (x_call ok6) (f6_told _) (fun vT wT ⟨hvT, hcT⟩ => ?_)
        subst hvT
        refine L_val rfl (x_assign (by conv => lhs; whnf)) ?_
        refine L_nil ?_
        refine W_ret ?_
        exact res1 rfl rfl ⟨rfl, (hC5).trans0 hcT⟩
      refine W_region rfl ?_
      refine L_val rfl (x_move (by conv => lhs; whnf)) ?_
      refine L_val rfl (x_move (by conv => lhs; whnf)) ?_
      refine L_val rfl (x_index el22 (i := i) (congrArg (fun q => Value.slice q lvs.length capl) hal) rfl (by omega)) ?_
      refine L_val rfl (x_load sc37 rfl hca) ?_
      refine L_val rfl (x_len el37 rfl) ?_
      refine L_val rfl (x_lss rfl rfl (decide_eq_false (by omega))) ?_
      refine L_val rfl (x_move (by conv => lhs; whnf)) ?_
      refine L_val rfl (x_move (by conv => lhs; whnf)) ?_
      refine L_val rfl (x_move (by conv => lhs; whnf)) ?_
      refine L_val rfl (x_index el22 (i := i) (congrArg (fun q => Value.slice q lvs.length capl) hal) rfl (by omega)) ?_
      refine L_val rfl (x_load sc37 rfl hca) ?_
      refine L_val rfl (x_len el37 rfl) ?_
      refine L_val rfl (x_gtr rfl rfl (decide_eq_false (by omega))) ?_
      refine L_val rfl (x_pick_f rfl (by conv => lhs; whnf)) ?_
      refine L_nil ?_
      refine W_false rfl ?_
      refine W_skip ?_
      refine W_cut (I := fun f w6 => ∃ S D, Frm f [(0, .slice al lvs.length capl), (2, .slice ak keep.length capk), (3, i64 torn), (4, i64 m), (5, .slice am mvs.length capm), (13, ptr bd 0), (15, ptr bl 0), (18, ptr bx 0), (19, ptr by' 0), (21, i64 (kk : Nat)), (22, i64 (i : Nat))] ∧ Jn w6 bd bs bm bl bx br by' S D (ls.take i) i u ∧ Chg [] w w6) ?_ (fun f w6 hI => ?_)
      ·
        refine W_seq ?_
        refine W_region rfl ?_
        refine L_val rfl (x_move (by conv => lhs; whnf)) ?_
        refine L_val rfl (x_move (by conv => lhs; whnf)) ?_
        refine L_val rfl (x_eql rfl rfl rfl) ?_
        refine L_nil ?_
        by_cases hik : i = kk
        · refine W_true (congrArg Value.bool (decide_eq_true (by omega))) ?_
          refine W_seq ?_
          refine W_region rfl ?_
          refine L_val rfl (x_move (by conv => lhs; whnf)) ?_
          refine L_call rfl (x_call ok10) (f10_sync hJ.st.dk hJ.st.log) (fun vS w7 ⟨hD7, hc7⟩ => ?_)
          refine L_nil ?_
          have hmid := hJ.mid hap hc7 (by obtain ⟨h1, h2, h3, _⟩ := hap; simp; omega)
          have hne7 := lg_ne hJ.st.dk hJ.st.log
          refine W_region rfl ?_
          refine L_val rfl (x_move (by conv => lhs; whnf)) ?_
          refine L_call rfl (x_call ok11) (f11_sync hmid.1 (by decide)) (fun vT w8 ⟨hX8, hc8⟩ => ?_)
          refine L_nil ?_
          have hney := xl_ne hmid.1 hmid.2
          exact ⟨_, _, ⟨rfl, rfl, rfl, rfl, rfl, rfl, rfl, rfl, rfl, rfl, rfl, trivial⟩, hJ.sync hap hD7 (hc7.at hJ.st.log (by simp; omega)) hX8 (hc8.at hmid.2 (by simp; omega)) hc8 (by obtain ⟨_, _, _, _, h1, h2, h3⟩ := hap; simp; omega), (hC5.out hc7 (by simp; omega)).out hc8 (by simp; omega)⟩
        · refine W_false (congrArg Value.bool (decide_eq_false (by omega))) ?_
          refine W_skip ?_
          exact ⟨S, D, ⟨rfl, rfl, rfl, rfl, rfl, rfl, rfl, rfl, rfl, rfl, rfl, trivial⟩, hJ, hC5⟩
      clear hJ hC5 hb
      obtain ⟨S, D, hFr, hJ, hC6⟩ := hI
      obtain ⟨g, rfl⟩ := hFr.eta
      have hb := (hls.chg0 hC6).get (i := i) (by omega)
      obtain ⟨v, z', hv', hz', hb⟩ := hb
      rw [hv] at hv'
      rw [hz] at hz'
      obtain rfl := Option.some.inj hv'
      obtain rfl := Option.some.inj hz'
      clear hca hal
      obtain ⟨ba, oa, hal, hca⟩ := rw_at (hl.chg0 hC6) hv
      have hput := put_ok hJ.st (by decide) hb hzin (by omega) (by omega) (by omega)
      refine W_seq ?_
      refine W_seq ?_
      refine W_region rfl ?_
      refine L_val rfl (x_move (by conv => lhs; whnf)) ?_
      refine L_val rfl (x_move (by conv => lhs; whnf)) ?_
      refine L_val rfl (x_move (by conv => lhs; whnf)) ?_
      refine L_val rfl (x_index el22 (i := i) (congrArg (fun q => Value.slice q lvs.length capl) hal) rfl (by omega)) ?_
      refine L_val rfl (x_load sc37 rfl hca) ?_
      refine L_call rfl (x_call ok12) hput (fun vP w7 ⟨hvP, hS7, hc7⟩ => ?_)
      subst hvP
      refine L_val rfl (x_neq rfl rfl rfl) ?_
      refine L_nil ?_
      refine W_false rfl ?_
      refine W_skip ?_
      have hmid := hJ.mid hap hc7 (by obtain ⟨h1, h2, h3, h4, _⟩ := hap; simp; omega)
      have hC7 := hC6.out hc7 (by simp; omega)
      obtain ⟨v, z', hv', hz', hb7⟩ := (hls.chg0 hC7).get (i := i) (by omega)
      rw [hv] at hv'
      rw [hz] at hz'
      obtain rfl := Option.some.inj hv'
      obtain rfl := Option.some.inj hz'
      clear hca hal
      obtain ⟨ba, oa, hal, hca⟩ := rw_at (hl.chg0 hC7) hv
      refine W_region rfl ?_
      refine L_val rfl (x_move (by conv => lhs; whnf)) ?_
      refine L_val rfl (x_move (by conv => lhs; whnf)) ?_
      refine L_val rfl (x_move (by conv => lhs; whnf)) ?_
      refine L_val rfl (x_index el22 (i := i) (congrArg (fun q => Value.slice q lvs.length capl) hal) rfl (by omega)) ?_
      refine L_val rfl (x_load sc37 rfl hca) ?_
      refine L_call rfl (x_call ok13) (f13_put hmid.1 hmid.2 hb7 (by omega) (by omega) (by decide) (by omega) (by omega)) (fun vQ w8 ⟨hX8, hy8, hc8⟩ => ?_)
      refine L_nil ?_
      have htk : ls.take (i + 1) = ls.take i ++ [z] := by rw [List.take_add_one, hz]; rfl
      refine W_region rfl ?_
      refine L_val rfl (x_move (by conv => lhs; whnf)) ?_
      refine L_val rfl (x_add rfl rfl (wr64 (c := ((i + 1 : Nat) : Int)) (by omega) (by omega) (by omega))) ?_
      refine L_val rfl (x_assign (by conv => lhs; whnf)) ?_
      refine L_nil ?_
      refine ⟨lvs.length - (i + 1), by omega, i + 1, u + (z.length + 75) / 64, S, putD D (recB z i) u ((z.length + 75) / 64), by omega, rfl, ⟨rfl, rfl, rfl, rfl, rfl, rfl, rfl, rfl, rfl, rfl, rfl, trivial⟩, ?_, by omega, ?_, hC7.out hc8 (by simp; omega)⟩
      · rw [htk]; exact hJ.put hap hS7 hX8 hy8 hc8 (by obtain ⟨_, _, _, _, h1, h2, h3⟩ := hap; simp; omega)
      · rw [htk]; intro y hy; rcases List.mem_append.1 hy with hy | hy
        · exact h150 y hy
        · rw [List.mem_singleton.1 hy]; omega
    · refine W_false (congrArg Value.bool (decide_eq_false (by omega))) ?_
      refine W_exit ?_
      have hil : i = lvs.length := by omega
      subst hil
      rw [List.take_of_length_le (by omega)] at hJ h150
      exact ⟨u, S, D, ⟨rfl, rfl, rfl, rfl, rfl, rfl, rfl, rfl, rfl, rfl, trivial⟩, hJ, h150, hC5⟩
  clear hJ4 hC4
  obtain ⟨u, S, D, hFr, hJ, h150, hC5⟩ := hI
  obtain ⟨g, rfl⟩ := hFr.eta
  have hs24' := hs24
  refine W_cut (I := fun f w6 => ∃ S D, Frm f [(0, .slice al lvs.length capl), (2, .slice ak keep.length capk), (3, i64 torn), (4, i64 m), (5, .slice am mvs.length capm), (13, ptr bd 0), (15, ptr bl 0), (18, ptr bx 0), (19, ptr by' 0), (21, i64 (kk : Nat))] ∧ Jn w6 bd bs bm bl bx br by' S D ls lvs.length u ∧ Chg [] w w6) ?_ (fun f w6 hI => ?_)
  ·
    refine W_seq ?_
    refine W_region rfl ?_
    refine L_val rfl (x_move (by conv => lhs; whnf)) ?_
    refine L_val rfl (x_move (by conv => lhs; whnf)) ?_
    refine L_val rfl (x_len el22 rfl) ?_
    refine L_val rfl (x_eql rfl rfl rfl) ?_
    refine L_nil ?_
    by_cases hik : kk = lvs.length
    · refine W_true (congrArg Value.bool (decide_eq_true (by omega))) ?_
      refine W_seq ?_
      refine W_region rfl ?_
      refine L_val rfl (x_move (by conv => lhs; whnf)) ?_
      refine L_call rfl (x_call ok10) (f10_sync hJ.st.dk hJ.st.log) (fun vS w7 ⟨hD7, hc7⟩ => ?_)
      refine L_nil ?_
      have hmid := hJ.mid hap hc7 (by obtain ⟨h1, h2, h3, _⟩ := hap; simp; omega)
      have hne7 := lg_ne hJ.st.dk hJ.st.log
      refine W_region rfl ?_
      refine L_val rfl (x_move (by conv => lhs; whnf)) ?_
      refine L_call rfl (x_call ok11) (f11_sync hmid.1 (by decide)) (fun vT w8 ⟨hX8, hc8⟩ => ?_)
      refine L_nil ?_
      have hney := xl_ne hmid.1 hmid.2
      exact ⟨_, _, ⟨rfl, rfl, rfl, rfl, rfl, rfl, rfl, rfl, rfl, rfl, trivial⟩, hJ.sync hap hD7 (hc7.at hJ.st.log (by simp; omega)) hX8 (hc8.at hmid.2 (by simp; omega)) hc8 (by obtain ⟨_, _, _, _, h1, h2, h3⟩ := hap; simp; omega), (hC5.out hc7 (by simp; omega)).out hc8 (by simp; omega)⟩
    · refine W_false (congrArg Value.bool (decide_eq_false (by omega))) ?_
      refine W_skip ?_
      exact ⟨S, D, ⟨rfl, rfl, rfl, rfl, rfl, rfl, rfl, rfl, rfl, rfl, trivial⟩, hJ, hC5⟩
  clear hJ hC5
  obtain ⟨S, D, hFr, hJ, hC6⟩ := hI
  obtain ⟨g, rfl⟩ := hFr.eta
  have hap1 := hap
  obtain ⟨a1, a2, a3, a4, a5, a6, a7⟩ := hap1
  have hkb : keep ≠ [] → ∀ b, (Value.slice ak keep.length capk).ownBlock = some b → b < w.heap.size := fun hne b hb => by
    obtain ⟨b', o, cap', e, _, _, hcell⟩ := hk.some (List.length_pos_iff.2 hne)
    simp only [Value.slice.injEq] at e
    obtain ⟨rfl, _, _⟩ := e
    simp [Value.ownBlock] at hb
    subst hb
    exact World.block_lt_of_cell? w _ (hcell 0 o (by omega) (List.length_pos_iff.2 hne))
  refine W_seq ?_
  refine W_region rfl ?_
  refine L_val rfl (x_move (by conv => lhs; whnf)) ?_
  refine L_val rfl (x_move (by conv => lhs; whnf)) ?_
  refine L_val rfl (x_move (by conv => lhs; whnf)) ?_
  refine L_val rfl (x_move (by conv => lhs; whnf)) ?_
  refine L_call rfl (x_call ok14) (f14_crash hJ.st.dk (by decide) (hk.chg0 hC6) (fun hne b hb => by have := hkb hne b hb; omega) torn m) (fun vC w7 ⟨hD7, hc7⟩ => ?_)
  refine L_nil ?_
  refine W_seq ?_
  have hmid := hJ.mid hap hc7 (by simp; omega)
  have hC7 := hC6.out hc7 (by simp; omega)
  refine W_region rfl ?_
  refine L_val rfl (x_move (by conv => lhs; whnf)) ?_
  refine L_val rfl (x_move (by conv => lhs; whnf)) ?_
  refine L_val rfl (x_move (by conv => lhs; whnf)) ?_
  refine L_val rfl (x_move (by conv => lhs; whnf)) ?_
  refine L_call rfl (x_call ok15) (f15_crash hmid.1 (by decide) (hk.chg0 hC7) (fun hne b hb => by have := hkb hne b hb; omega) torn m) (fun vD w8 ⟨hX8, hc8⟩ => ?_)
  refine L_nil ?_
  refine W_seq ?_
  refine W_seq ?_
  have hX8' := hX8.same (fun i _ => crI_eq S D keep torn m i) (fun i _ => crI_eq S D keep torn m i) (fun _ _ => rfl)
  have hFin : ∀ i, i < 60 → InB (crS S D keep torn m i) := fun i hi => inB_crS hJ.ins hJ.st.inb keep torn m i hi
  have hD8 := hD7.chg hc8 (by simp; omega) (by simp; omega) (by simp; omega)
  have hC8 := hC7.out hc8 (by simp; omega)
  generalize crS S D keep torn m = F at *
  clear hX8 hD7 hmid hJ
  refine W_region rfl ?_
  refine L_val rfl (x_move (by conv => lhs; whnf)) ?_
  refine L_call rfl (x_call ok9) (f9_open hX8' hFin (by decide)) (fun v9 w9 ⟨bz, vz, zs, kz, uz, vsz, hv9, hr9, hbz, hl9, hown9, hrecs9, hX9, hc9⟩ => ?_)
  subst hv9
  refine L_val rfl (x_move (by conv => lhs; whnf)) ?_
  refine L_val rfl (x_extract rfl rfl) ?_
  refine L_val rfl (x_extract rfl rfl) ?_
  refine L_val rfl (x_assign (by conv => lhs; whnf)) ?_
  refine L_val rfl (x_assign (v := vz) rfl) ?_
  refine L_nil ?_
  have hlenF : ∀ i, i < 60 → (F i).length = 64 := fun i hi => hD8.lenS hi
  have hzl := hrecs9.len
  have hC9 := hC8.out hc9 (by simp; omega)
  have hD9 := hD8.chg hc9 (by simp; omega) (by simp; omega) (by simp; omega)
  have hle9 := hr9.le hlenF (Nat.zero_le _)
  have hzin := runs_inB hlenF hFin hr9
  have hRz := Rw.of_own hown9
  obtain ⟨av, capv, rfl⟩ := own_slice hown9
  have hRsz := hrecs9.rs
  have htake : ∀ {w0 : World} {q : Nat}, Chg [] w w0 → q ≤ lvs.length → Rw w0 (.slice (baseAt al capl 0 1) q capl) (lvs.take q) := fun hc hq => by
    have := (hl.chg0 hc).slice (l := 0) (Nat.zero_le _) hq
    simpa using this
  refine W_seq ?_
  by_cases hz1 : zs.length < kk
  · refine W_region rfl ?_
    refine L_val rfl (x_move (by conv => lhs; whnf)) ?_
    refine L_val rfl (x_len el22 rfl) ?_
    refine L_val rfl (x_move (by conv => lhs; whnf)) ?_
    refine L_val rfl (x_lss rfl rfl (decide_eq_true (by omega))) ?_
    refine L_val rfl (x_move (by conv => lhs; whnf)) ?_
    refine L_no rfl ?_
    refine L_no rfl ?_
    refine L_no rfl ?_
    refine L_no rfl ?_
    refine L_no rfl ?_
    refine L_val rfl (x_pick_t rfl (by conv => lhs; whnf)) ?_
    refine L_val rfl (x_move (by conv => lhs; whnf)) ?_
    refine L_no rfl ?_
    refine L_no rfl ?_
    refine L_no rfl ?_
    refine L_no rfl ?_
    refine L_no rfl ?_
    refine L_no rfl ?_
    refine L_no rfl ?_
    refine L_val rfl (x_pick_t rfl (by conv => lhs; whnf)) ?_
    refine L_nil ?_
    refine W_true rfl ?_
    refine W_seq ?_
    refine W_region rfl ?_
    refine L_call rfl (x_call ok6) (f6_told _) (fun vT wT ⟨hvT, hcT⟩ => ?_)
    subst hvT
    refine L_val rfl (x_assign (by conv => lhs; whnf)) ?_
    refine L_nil ?_
    refine W_ret ?_
    exact res1 rfl rfl ⟨rfl, (hC9).trans0 hcT⟩
  by_cases hz2 : lvs.length < zs.length
  · refine W_region rfl ?_
    refine L_val rfl (x_move (by conv => lhs; whnf)) ?_
    refine L_val rfl (x_len el22 rfl) ?_
    refine L_val rfl (x_move (by conv => lhs; whnf)) ?_
    refine L_val rfl (x_lss rfl rfl (decide_eq_false (by omega))) ?_
    refine L_val rfl (x_move (by conv => lhs; whnf)) ?_
    refine L_val rfl (x_move (by conv => lhs; whnf)) ?_
    refine L_val rfl (x_len el22 rfl) ?_
    refine L_val rfl (x_move (by conv => lhs; whnf)) ?_
    refine L_val rfl (x_len el22 rfl) ?_
    refine L_val rfl (x_gtr rfl rfl (decide_eq_true (by omega))) ?_
    refine L_val rfl (x_pick_f rfl (by conv => lhs; whnf)) ?_
    refine L_val rfl (x_move (by conv => lhs; whnf)) ?_
    refine L_no rfl ?_
    refine L_no rfl ?_
    refine L_no rfl ?_
    refine L_no rfl ?_
    refine L_no rfl ?_
    refine L_no rfl ?_
    refine L_no rfl ?_
    refine L_val rfl (x_pick_t rfl (by conv => lhs; whnf)) ?_
    refine L_nil ?_
    refine W_true rfl ?_
    refine W_seq ?_
    refine W_region rfl ?_
    refine L_call rfl (x_call ok6) (f6_told _) (fun vT wT ⟨hvT, hcT⟩ => ?_)
    subst hvT
    refine L_val rfl (x_assign (by conv => lhs; whnf)) ?_
    refine L_nil ?_
    refine W_ret ?_
    exact res1 rfl rfl ⟨rfl, (hC9).trans0 hcT⟩
  refine W_region rfl ?_
  refine L_val rfl (x_move (by conv => lhs; whnf)) ?_
  refine L_val rfl (x_len el22 rfl) ?_
  refine L_val rfl (x_move (by conv => lhs; whnf)) ?_
  refine L_val rfl (x_lss rfl rfl (decide_eq_false (by omega))) ?_
  refine L_val rfl (x_move (by conv => lhs; whnf)) ?_
  refine L_val rfl (x_move (by conv => lhs; whnf)) ?_
  refine L_val rfl (x_len el22 rfl) ?_
  refine L_val rfl (x_move (by conv => lhs; whnf)) ?_
  refine L_val rfl (x_len el22 rfl) ?_
  refine L_val rfl (x_gtr rfl rfl (decide_eq_false (by omega))) ?_
  refine L_val rfl (x_pick_f rfl (by conv => lhs; whnf)) ?_
  refine L_val rfl (x_move (by conv => lhs; whnf)) ?_
  refine L_val rfl (x_move (by conv => lhs; whnf)) ?_
  refine L_val rfl (x_move (by conv => lhs; whnf)) ?_
  refine L_val rfl (x_move (by conv => lhs; whnf)) ?_
  refine L_val rfl (x_len el22 rfl) ?_
  refine L_val rfl (x_sliceH el22 (h := vsz.length) rfl rfl (by omega)) ?_
  have hlv9 : Rw w9 (.slice (baseAt al capl 0 1) vsz.length capl) (lvs.take vsz.length) := htake hC9 (by omega)
  have hpc := f16_pieces hRz hRsz hlv9 ((hls.chg0 hC9).take vsz.length) hzin (fun z hz => hlb z (List.mem_of_mem_take hz))
  have htl : (lvs.take vsz.length).length = vsz.length := by rw [List.length_take]; omega
  refine L_call rfl (x_call ok16) hpc (fun vE w10 ⟨hvE, hc10⟩ => ?_)
  subst hvE
  refine L_val rfl (x_not rfl) ?_
  refine L_val rfl (x_pick_f rfl (by conv => lhs; whnf)) ?_
  refine L_nil ?_
  have hC10 := hC9.trans0 hc10
  have hD10 := hD9.chg0 hc10
  have hw10 := hC10.size
  by_cases heq : zs = ls.take vsz.length
  · refine W_false (congrArg (fun b => Value.bool !b) (decide_eq_true heq)) ?_
    refine W_skip ?_
    refine W_seq ?_
    clear hlv9 hpc hRz hRsz hown9 hrecs9 hX9 hl9 hX8' hD8 hD9
    refine W_region rfl ?_
    refine L_val rfl (x_move (by conv => lhs; whnf)) ?_
    refine L_call rfl (x_call ok7) (f7_open hD10 hFin (by decide)) (fun v11 w11 ⟨bq, vr, rs, kr, ur, vsr, hv11, hr11, hbq, hlog11, hown11, hrecs11, hD11, hc11⟩ => ?_)
    subst hv11
    obtain ⟨e1, e2, e3⟩ := runs_det hr11 hr9
    subst e1 e2 e3
    have hS11 := St.opened hlenF hFin hr11 hD11 hlog11
    have hrl := hrecs11.len
    have hRr := Rw.of_own hown11
    obtain ⟨ar, capr, rfl⟩ := own_slice hown11
    have hC11 := hC10.out hc11 (by simp; omega)
    refine L_val rfl (x_move (by conv => lhs; whnf)) ?_
    refine L_val rfl (x_extract rfl rfl) ?_
    refine L_val rfl (x_extract rfl rfl) ?_
    refine L_val rfl (x_extract rfl rfl) ?_
    refine L_val rfl (x_assign (by conv => lhs; whnf)) ?_
    refine L_val rfl (x_assign (by conv => lhs; whnf)) ?_
    refine L_val rfl (x_assign (by conv => lhs; whnf)) ?_
    refine L_nil ?_
    refine W_seq ?_
    refine W_seq ?_
    have hlen10 := hD10.lt
    have hRr2 := hrecs11.rs
    have hlv11 : Rw w11 (.slice (baseAt al capl 0 1) vsr.length capl) (lvs.take vsr.length) := htake hC11 (by omega)
    have hpc := f16_pieces hRr hRr2 hlv11 ((hls.chg0 hC11).take vsr.length) hzin (fun z hz => hlb z (List.mem_of_mem_take hz))
    have htl2 : (lvs.take vsr.length).length = vsr.length := by rw [List.length_take]; omega
    have heq2 : rs = ls.take vsr.length := by rw [hrl, ← hzl]; exact heq
    rw [decide_eq_true heq2] at hpc
    refine W_region rfl ?_
    refine L_val rfl (x_move (by conv => lhs; whnf)) ?_
    refine L_val rfl (x_neq rfl rfl rfl) ?_
    refine L_val rfl (x_move (by conv => lhs; whnf)) ?_
    refine L_val rfl (x_move (by conv => lhs; whnf)) ?_
    refine L_val rfl (x_eqlNil pt28 rfl rfl) ?_
    refine L_val rfl (x_pick_f rfl (by conv => lhs; whnf)) ?_
    refine L_val rfl (x_move (by conv => lhs; whnf)) ?_
    refine L_val rfl (x_move (by conv => lhs; whnf)) ?_
    refine L_val rfl (x_len el22 rfl) ?_
    refine L_val rfl (x_move (by conv => lhs; whnf)) ?_
    refine L_val rfl (x_lss rfl rfl (decide_eq_false (by omega))) ?_
    refine L_val rfl (x_pick_f rfl (by conv => lhs; whnf)) ?_
    refine L_val rfl (x_move (by conv => lhs; whnf)) ?_
    refine L_val rfl (x_move (by conv => lhs; whnf)) ?_
    refine L_val rfl (x_len el22 rfl) ?_
    refine L_val rfl (x_move (by conv => lhs; whnf)) ?_
    refine L_val rfl (x_len el22 rfl) ?_
    refine L_val rfl (x_gtr rfl rfl (decide_eq_false (by omega))) ?_
    refine L_val rfl (x_pick_f rfl (by conv => lhs; whnf)) ?_
    refine L_val rfl (x_move (by conv => lhs; whnf)) ?_
    refine L_val rfl (x_move (by conv => lhs; whnf)) ?_
    refine L_val rfl (x_move (by conv => lhs; whnf)) ?_
    refine L_val rfl (x_move (by conv => lhs; whnf)) ?_
    refine L_val rfl (x_len el22 rfl) ?_
    refine L_val rfl (x_sliceH el22 (h := vsr.length) rfl rfl (by omega)) ?_
    refine L_call rfl (x_call ok16) hpc (fun vE2 w12 ⟨hvE2, hc12⟩ => ?_)
    subst hvE2
    refine L_val rfl (x_not rfl) ?_
    refine L_val rfl (x_pick_f rfl (by conv => lhs; whnf)) ?_
    refine L_val rfl (x_move (by conv => lhs; whnf)) ?_
    refine L_val rfl (x_move (by conv => lhs; whnf)) ?_
    refine L_call rfl (x_call ok17) (f17_dirty (hD11.chg0 hc12) (by decide)) (fun vF w13 ⟨dz, _, hdz, _, hdr, _, hc13⟩ => ?_)
    have hdz0 : dz = [] := List.eq_nil_iff_forall_not_mem.2 (fun i hi => by have := (hdz i).1 hi; simp at this)
    subst hdz0
    obtain ⟨ad, capd, rfl⟩ := hdr.len
    refine L_val rfl (x_len el23 rfl) ?_
    refine L_val rfl (x_neq rfl rfl (decide_eq_true (by simp))) ?_
    refine L_val rfl (x_pick_f rfl (by conv => lhs; whnf)) ?_
    refine L_nil ?_
    refine W_false rfl ?_
    refine W_skip ?_
    refine W_seq ?_
    have hc1113 : Chg [] w11 w13 := hc12.trans0 hc13
    have hC13 := hC11.trans0 hc1113
    clear hpc hlv11
    refine W_region rfl ?_
    refine L_none e1_22 rfl (fun w14 hb14 hc14 hs14 => ?_)
    refine L_val rfl (x_move (by conv => lhs; whnf)) ?_
    have hown14 : w14.ownsRow w10.heap.size 37 1 (.slice (some ⟨w13.heap.size, 0, none⟩) 0 0) 0 [] := owns_block hb14 (by have := hc11.size; have := hc1113.size; omega) rfl rfl (by decide)
    have hc1114 := hc1113.trans0 hc14
    have hone : ∀ {w0 : World} {vs : List Value} {xs : List (List Int)}, Rs w0 vs xs → ∀ u ∈ vs, u.oneCell' = true := fun hr u hu => rs_one hr u hu
    refine L_append (base := w10.heap.size) (n := 0) (xs := []) (v := .slice (some ⟨w13.heap.size, 0, none⟩) 0 0) e1_22 rfl rfl rfl hown14 (hRr.chg0 hc1114) (hone hRr2) (by omega) (by omega) (by have := hc11.size; have := hc1114.size; omega) (fun v15 w15 ha15 => ?_)
    refine L_val rfl (x_assign (v := v15) rfl) ?_
    refine L_nil ?_
    refine W_seq ?_
    refine W_seq ?_
    have ho15 := ha15.own
    rw [List.nil_append] at ho15
    have hown14n := own_new hown14
    have hlow15 : ∀ k ∈ (Value.slice (some ⟨w13.heap.size, 0, none⟩) 0 0).ownBlock.toList, w11.heap.size ≤ k := fun k hk => by
      simp [Value.ownBlock] at hk
      subst hk; exact hc1113.size
    have hc1115 : Chg [] w11 w15 := hc1114.out ha15.chg hlow15
    have hS15 := hS11.chg0 hc1115
    have hrecs15 := hrecs11.chg hc1115 (by simp)
    have hC15 := hC11.trans0 hc1115
    have hsz10 : w10.heap.size ≤ w11.heap.size := hc11.size
    have h150r : ∀ z ∈ rs, z.length ≤ 150 := fun z hz => h150 z (by rw [heq2] at hz; exact List.mem_of_mem_take hz)
    have hur := runs_size hr11 h150r
    have hkr : kr = rs.length := by omega
    subst hkr
    clear hrecs11 hRr hRr2 hS11 hlog11 hD11 hc11 hown11 hc12 hc13 hc14 hb14 ha15 hown14 hr9 hr11
    refine W_region rfl ?_
    refine L_val rfl (x_assign (by conv => lhs; whnf)) ?_
    refine L_nil ?_
    refine W_block ?_
    refine W_loop (fun mm f w16 => ∃ j u S D vall, j ≤ mvs.length ∧ mm = mvs.length - j ∧ Frm f [(5, .slice am mvs.length capm), (13, ptr bd 0), (25, ptr bq 0), (28, vall), (29, i64 (j : Nat))] ∧ St w16 bd bs bm bq 60 S D (rs ++ ms.take j) (rs.length + j) u ∧ u ≤ 3 * (rs.length + j) ∧ w16.ownsRow w10.heap.size 37 1 vall (vsr ++ mvs.take j).length (vsr ++ mvs.take j) ∧ Recs w16 w10.heap.size vsr rs ∧ w10.heap.size ≤ w16.heap.size ∧ Chg [] w w16) mvs.length
      ⟨0, ur, _, _, v15, by omega, rfl, ⟨rfl, rfl, rfl, rfl, rfl, trivial⟩, by rw [List.take_zero, List.append_nil, Nat.add_zero]; exact hS15, by omega, by rw [List.take_zero, List.append_nil]; exact ho15, hrecs15, by have := hc1115.size; omega, hC15⟩ (fun mm f w16 hI => ?_)
    clear hS15 ho15 hrecs15 hC15
    obtain ⟨j, u, S, D, vall, hj, rfl, hFr, hS16, hu, hall, hrc, hsz16, hC16⟩ := hI
    obtain ⟨g, rfl⟩ := hFr.eta
    have hrcl := hrc.len
    refine W_seq ?_
    refine W_seq ?_
    refine W_region rfl ?_
    refine L_val rfl (x_move (by conv => lhs; whnf)) ?_
    refine L_val rfl (x_move (by conv => lhs; whnf)) ?_
    refine L_val rfl (x_len el22 rfl) ?_
    refine L_val rfl (x_lss rfl rfl rfl) ?_
    refine L_nil ?_
    by_cases hcond : j < mvs.length
    · refine W_true (congrArg Value.bool (decide_eq_true (by omega))) ?_
      refine W_skip ?_
      refine W_seq ?_
      refine W_block ?_
      refine W_seq ?_
      refine W_seq ?_
      obtain ⟨v, z, hv, hz, hb⟩ := (hms.chg0 hC16).get (i := j) (by omega)
      obtain ⟨ba, oa, hal, hca⟩ := rw_at (hm.chg0 hC16) hv
      obtain ⟨az, capz, rfl⟩ := hb.is
      have hzin2 := hmb z (List.mem_of_getElem? hz)
      have hzl2 := hb.lens
      by_cases hz3 : z.length < 1
      · refine W_region rfl ?_
        refine L_val rfl (x_move (by conv => lhs; whnf)) ?_
        refine L_val rfl (x_move (by conv => lhs; whnf)) ?_
        refine L_val rfl (x_index el22 (i := j) (congrArg (fun q => Value.slice q mvs.length capm) hal) rfl (by omega)) ?_
        refine L_val rfl (x_load sc37 rfl hca) ?_
        refine L_val rfl (x_len el37 rfl) ?_
        refine L_val rfl (x_lss rfl rfl (decide_eq_true (by omega))) ?_
        refine L_val rfl (x_move (by conv => lhs; whnf)) ?_
        refine L_no rfl ?_
        refine L_no rfl ?_
        refine L_no rfl ?_
        refine L_no rfl ?_
        refine L_no rfl ?_
        refine L_no rfl ?_
        refine L_val rfl (x_pick_t rfl (by conv => lhs; whnf)) ?_
        refine L_nil ?_
        refine W_true rfl ?_
        refine W_seq ?_
        refine W_region rfl ?_
        refine L_call rfl (x_call ok6) (f6_told _) (fun vT wT ⟨hvT, hcT⟩ => ?_)
        subst hvT
        refine L_val rfl (x_assign (by conv => lhs; whnf)) ?_
        refine L_nil ?_
        refine W_ret ?_
        exact res1 rfl rfl ⟨rfl, (hC16).trans0 hcT⟩
      by_cases hz4 : 150 < z.length
      · refine W_region rfl ?_
        refine L_val rfl (x_move (by conv => lhs; whnf)) ?_
        refine L_val rfl (x_move (by conv => lhs; whnf)) ?_
        refine L_val rfl (x_index el22 (i := j) (congrArg (fun q => Value.slice q mvs.length capm) hal) rfl (by omega)) ?_
        refine L_val rfl (x_load sc37 rfl hca) ?_
        refine L_val rfl (x_len el37 rfl) ?_
        refine L_val rfl (x_lss rfl rfl (decide_eq_false (by omega))) ?_
        refine L_val rfl (x_move (by conv => lhs; whnf)) ?_
        refine L_val rfl (x_move (by conv => lhs; whnf)) ?_
        refine L_val rfl (x_move (by conv => lhs; whnf)) ?_
        refine L_val rfl (x_index el22 (i := j) (congrArg (fun q => Value.slice q mvs.length capm) hal) rfl (by omega)) ?_
        refine L_val rfl (x_load sc37 rfl hca) ?_
        refine L_val rfl (x_len el37 rfl) ?_
        refine L_val rfl (x_gtr rfl rfl (decide_eq_true (by omega))) ?_
        refine L_val rfl (x_pick_f rfl (by conv => lhs; whnf)) ?_
        refine L_nil ?_
        refine W_true rfl ?_
        refine W_seq ?_
        refine W_region rfl ?_
        refine L_call rfl (x_call ok6) (f6_told _) (fun vT wT ⟨hvT, hcT⟩ => ?_)
        subst hvT
        refine L_val rfl (x_assign (by conv => lhs; whnf)) ?_
        refine L_nil ?_
        refine W_ret ?_
        exact res1 rfl rfl ⟨rfl, (hC16).trans0 hcT⟩
      refine W_region rfl ?_
      refine L_val rfl (x_move (by conv => lhs; whnf)) ?_
      refine L_val rfl (x_move (by conv => lhs; whnf)) ?_
      refine L_val rfl (x_index el22 (i := j) (congrArg (fun q => Value.slice q mvs.length capm) hal) rfl (by omega)) ?_
      refine L_val rfl (x_load sc37 rfl hca) ?_
      refine L_val rfl (x_len el37 rfl) ?_
      refine L_val rfl (x_lss rfl rfl (decide_eq_false (by omega))) ?_
      refine L_val rfl (x_move (by conv => lhs; whnf)) ?_
      refine L_val rfl (x_move (by conv => lhs; whnf)) ?_
      refine L_val rfl (x_move (by conv => lhs; whnf)) ?_
      refine L_val rfl (x_index el22 (i := j) (congrArg (fun q => Value.slice q mvs.length capm) hal) rfl (by omega)) ?_
      refine L_val rfl (x_load sc37 rfl hca) ?_
      refine L_val rfl (x_len el37 rfl) ?_
      refine L_val rfl (x_gtr rfl rfl (decide_eq_false (by omega))) ?_
      refine L_val rfl (x_pick_f rfl (by conv => lhs; whnf)) ?_
      refine L_nil ?_
      refine W_false rfl ?_
      refine W_skip ?_
      have hput := put_ok hS16 (by decide) hb hzin2 (by omega) (by omega) (by omega)
      have hneq := lg_ne hS16.dk hS16.log
      have hlgq : w16.heap[bq]? = _ := hS16.log
      refine W_seq ?_
      refine W_seq ?_
      refine W_region rfl ?_
      refine L_val rfl (x_move (by conv => lhs; whnf)) ?_
      refine L_val rfl (x_move (by conv => lhs; whnf)) ?_
      refine L_val rfl (x_move (by conv => lhs; whnf)) ?_
      refine L_val rfl (x_index el22 (i := j) (congrArg (fun q => Value.slice q mvs.length capm) hal) rfl (by omega)) ?_
      refine L_val rfl (x_load sc37 rfl hca) ?_
      refine L_call rfl (x_call ok12) hput (fun vP w17 ⟨hvP, hS17, hc17⟩ => ?_)
      subst hvP
      refine L_val rfl (x_neq rfl rfl rfl) ?_
      refine L_nil ?_
      refine W_false rfl ?_
      refine W_skip ?_
      have hC17 := hC16.out hc17 (by simp; omega)
      obtain ⟨v, z', hv', hz', hb7⟩ := (hms.chg0 hC17).get (i := j) (by omega)
      rw [hv] at hv'
      rw [hz] at hz'
      obtain rfl := Option.some.inj hv'
      obtain rfl := Option.some.inj hz'
      clear hca hal
      obtain ⟨ba, oa, hal, hca⟩ := rw_at (hm.chg0 hC17) hv
      obtain ⟨es, clock, _, hmm, _⟩ := hS16.dk.dirty
      have hrc17 := hrc.chg hc17 (fun b hb hm => by
        rcases List.mem_cons.1 hm with e | hm
        · obtain ⟨c, T, zz, hbb, hT⟩ := hb; subst e; rw [hmm] at hbb; simp [mobj] at hbb
        · have e := List.mem_singleton.1 hm
          exact hb.ne hlgq (by decide) e)
      have hall17 := own_chg hall hc17 (fun b hb hm => by
        rcases List.mem_cons.1 hm with e | hm
        · subst e
          exact own_cells hall hmm rfl (by simp [hb])
        · have e := List.mem_singleton.1 hm
          subst e
          exact own_ne (e := 37) hlgq (by decide) hall (by simp [hb]))
      refine W_region rfl ?_
      refine L_val rfl (x_move (v := vall) rfl) ?_
      refine L_val rfl (x_move (by conv => lhs; whnf)) ?_
      refine L_val rfl (x_move (by conv => lhs; whnf)) ?_
      refine L_val rfl (x_index el22 (i := j) (congrArg (fun q => Value.slice q mvs.length capm) hal) rfl (by omega)) ?_
      refine L_val rfl (x_load sc37 rfl hca) ?_
      refine L_one e1_22 rfl (by conv => lhs; whnf) rfl (fun w18 hb18 hc18 hs18 => ?_)
      have hlall : (vsr ++ mvs.take j).length ≤ 60 := by rw [List.length_append, List.length_take]; omega
      refine L_append e1_22 rfl rfl rfl (own_chg hall17 hc18 (by simp)) (Rw.one hb18) (fun u hu => by rw [List.mem_singleton.1 hu]; rfl) (by simp only [List.length_singleton]; omega) (by simp only [List.length_singleton]; omega) (by have := hc17.size; omega) (fun v19 w19 ha19 => ?_)
      refine L_val rfl (x_assign (v := v19) rfl) ?_
      refine L_nil ?_
      have hown18 := own_chg hall17 hc18 (by simp)
      have hC19 := (hC17.trans0 hc18).out ha19.chg (fun k hk => Nat.le_trans hw10 (own_new hown18 k hk))
      have hvne : ∀ {b : Nat} {c : Array Value} {T : TypeId} {zz : Nat × Nat}, w17.heap[b]? = some (.cells c T zz) → T ≠ 37 → b ∉ vall.ownBlock.toList := fun hbb hT => own_ne (e := 37) (hc18.at hbb (by simp)) hT hown18
      obtain ⟨es2, clock2, _, hmm2, _⟩ := (hS17.dk.chg0 hc18).dirty
      have hvnm : bm ∉ vall.ownBlock.toList := own_cells hown18 hmm2 rfl
      have hvns : bs ∉ vall.ownBlock.toList := by obtain ⟨syn, _, hss, _⟩ := hS17.dk.syn; exact hvne hss (by decide)
      have hS19 := (hS17.chg0 hc18).chg ha19.chg (hvne hS17.dk.desc (by decide)) hvns hvnm (hvne hS17.log (by decide))
      have hrc19 := (hrc17.chg hc18 (by simp)).chg ha19.chg (fun b hb => by
        obtain ⟨c, T, zz, hbb, hT⟩ := hb
        exact own_ne (e := 37) hbb (by rcases hT with rfl | rfl <;> decide) hown18)
      have htk : ms.take (j + 1) = ms.take j ++ [z] := by rw [List.take_add_one, hz]; rfl
      have htv : mvs.take (j + 1) = mvs.take j ++ [Value.slice az z.length capz] := by rw [List.take_add_one, hv]; rfl
      have ho19 := ha19.own
      rw [List.append_assoc, ← htv] at ho19
      refine W_region rfl ?_
      refine L_val rfl (x_move (by conv => lhs; whnf)) ?_
      refine L_val rfl (x_add rfl rfl (wr64 (c := ((j + 1 : Nat) : Int)) (by omega) (by omega) (by omega))) ?_
      refine L_val rfl (x_assign (by conv => lhs; whnf)) ?_
      refine L_nil ?_
      refine ⟨mvs.length - (j + 1), by omega, j + 1, u + (z.length + 75) / 64, S, putD D (recB z (rs.length + j : Nat)) u ((z.length + 75) / 64), v19, by omega, rfl, ⟨rfl, rfl, rfl, rfl, rfl, trivial⟩, ?_, by omega, ho19, hrc19, by have := hc17.size; have := ha19.chg.size; omega, hC19⟩
      rw [htk, ← List.append_assoc]
      exact hS19
    · refine W_false (congrArg Value.bool (decide_eq_false (by omega))) ?_
      refine W_exit ?_
      have hjm : j = mvs.length := by omega
      subst hjm
      rw [List.take_of_length_le (by omega)] at hS16
      rw [List.take_length] at hall
      have hneq := lg_ne hS16.dk hS16.log
      refine W_seq ?_
      refine W_region rfl ?_
      refine L_val rfl (x_move (by conv => lhs; whnf)) ?_
      refine L_call rfl (x_call ok10) (f10_sync hS16.dk hS16.log) (fun vS w20 ⟨hD20, hc20⟩ => ?_)
      refine L_nil ?_
      refine W_seq ?_
      have hS20 := hS16.sync hD20 (hc20.at hS16.log (by simp; omega))
      refine W_region rfl ?_
      refine L_val rfl (x_move (by conv => lhs; whnf)) ?_
      refine L_call rfl (x_call ok14) (f14_crash (keep := []) hD20 (by decide) (Rw.nil w20) (fun h => absurd rfl h) (-1) 0) (fun vC w21 ⟨hD21, hc21⟩ => ?_)
      rw [funext (crS_nothing _ _ 0)] at hD21
      refine L_nil ?_
      refine W_seq ?_
      refine W_region rfl ?_
      refine L_val rfl (x_move (by conv => lhs; whnf)) ?_
      refine L_call rfl (x_call ok7) (f7_open hD21 hS20.inb (by decide)) (fun v22 w22 ⟨bs2, vs2, ss, ks, us, vss, hv22, hr22, hbs2, hlog22, hown22, hrecs22, hD22, hc22⟩ => ?_)
      subst hv22
      obtain ⟨rfl, rfl, rfl⟩ := runs_det hr22 hS20.runs
      have hRs := Rw.of_own hown22
      obtain ⟨as2, caps2, rfl⟩ := own_slice hown22
      refine L_val rfl (x_move (by conv => lhs; whnf)) ?_
      refine L_val rfl (x_extract rfl rfl) ?_
      refine L_val rfl (x_extract rfl rfl) ?_
      refine L_val rfl (x_extract rfl rfl) ?_
      refine L_val rfl (x_assign (by conv => lhs; whnf)) ?_
      refine L_val rfl (x_assign (by conv => lhs; whnf)) ?_
      refine L_val rfl (x_assign (by conv => lhs; whnf)) ?_
      refine L_nil ?_
      have hc1622 : Chg [bs, bm] w16 w22 := (hc20.same hc21).same hc22
      have hlow : ∀ k ∈ [bs, bm], k < w10.heap.size := by simp; omega
      have hrc22 := hrc.low hc1622 hlow
      have hall22 := own_chg hall hc1622 (fun b hb hm => by have := hlow b hm; have := (hall.lt b hb).1; omega)
      have hC22 := hC16.out hc1622 (by simp; omega)
      have hpin : ∀ z ∈ rs ++ ms, InB z := fun z hz => (List.mem_append.1 hz).elim (hzin z) (hmb z)
      refine W_seq ?_
      refine W_region rfl ?_
      refine L_call rfl (x_call ok6) (f6_told _) (fun vT w23 ⟨hvT, hc23⟩ => ?_)
      subst hvT
      refine L_val rfl (x_move (by conv => lhs; whnf)) ?_
      refine L_val rfl (x_move (by conv => lhs; whnf)) ?_
      refine L_val rfl (x_eql rfl rfl rfl) ?_
      refine L_val rfl (x_pick_t rfl (by conv => lhs; whnf)) ?_
      refine L_val rfl (x_move (by conv => lhs; whnf)) ?_
      refine L_val rfl (x_move (by conv => lhs; whnf)) ?_
      refine L_val rfl (x_move (v := vall) rfl) ?_
      have hpc := f16_pieces (hRs.chg0 hc23) (hrecs22.rs.chg0 hc23) (Rw.chg0 (Rw.of_own hall22) hc23) ((hrc22.rs.append (hms.chg0 hC22)).chg0 hc23) hpin hpin
      have edec : decide (rs ++ ms = rs ++ ms) = true := decide_eq_true rfl
      rw [edec] at hpc
      refine L_call rfl (x_call ok16) hpc (fun vE3 w24 ⟨hvE3, hc24⟩ => ?_)
      subst hvE3
      refine L_val rfl (x_pick_t rfl (by conv => lhs; whnf)) ?_
      refine L_val rfl (x_assign (by conv => lhs; whnf)) ?_
      refine L_nil ?_
      refine W_ret ?_
      exact res1 rfl rfl ⟨rfl, (hC22.trans0 hc23).trans0 hc24⟩
  · refine W_true (congrArg (fun b => Value.bool !b) (decide_eq_false heq)) ?_
    refine W_seq ?_
    refine W_region rfl ?_
    refine L_call rfl (x_call ok6) (f6_told _) (fun vT wT ⟨hvT, hcT⟩ => ?_)
    subst hvT
    refine L_val rfl (x_assign (by conv => lhs; whnf)) ?_
    refine L_nil ?_
    refine W_ret ?_
    exact res1 rfl rfl ⟨rfl, (hC10).trans0 hcT⟩
end Go.Proofs.Ytinoebjhcmeppaa
