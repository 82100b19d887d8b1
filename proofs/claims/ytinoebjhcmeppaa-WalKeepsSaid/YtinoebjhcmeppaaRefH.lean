/- The walk of the document's Open of a log. -/
import Derived.Test.YtinoebjhcmeppaaRefG
namespace Go.Proofs.Ytinoebjhcmeppaa
open E Sha
set_option maxRecDepth 100000
set_option maxHeartbeats 4000000

theorem i64_or_nat (a b : Nat) (ha : a < 9223372036854775808) (hb : b < 9223372036854775808) : bits .or .i64 (a : Int) (b : Int) = ((a ||| b : Nat) : Int) := by
  have hx : a ||| b < 2 ^ 63 := Nat.or_lt_two_pow (by omega) (by omega)
  show IntKind.i64.wrap ((BitVec.ofInt 64 (a : Int) ||| BitVec.ofInt 64 (b : Int)).toNat : Int) = _
  rw [BitVec.toNat_or, ofInt_u64 a (by omega), ofInt_u64 b (by omega)]
  exact wr64 rfl (by omega) (by omega)
theorem or_sh {A s b : Nat} (hb : b < 2 ^ s) (hA : A * 2 ^ s < 9223372036854775808) (h2 : b < 9223372036854775808) : bits .or .i64 ((A * 2 ^ s : Nat) : Int) ((b : Nat) : Int) = ((A * 2 ^ s + b : Nat) : Int) := by
  rw [i64_or_nat _ _ hA h2]
  have := Nat.shiftLeft_add_eq_or_of_lt (a := A) (b := b) (i := s) hb
  rw [Nat.shiftLeft_eq] at this
  rw [← this]
theorem byte_nat {bs : List Int} (h : InB bs) (i : Nat) : ∃ b : Nat, at' bs i = (b : Int) ∧ b ≤ 255 := by
  have := at_range h i
  exact ⟨(at' bs i).toNat, by omega, by omega⟩
theorem nb_num4 {bs : List Int} (h : InB bs) (hl : 4 ≤ bs.length) : nb (num4 bs : Nat) 4 = bs.take 4 := by
  have h4 := num4_lt h
  obtain ⟨b0, e0, l0⟩ := byte_nat h 0
  obtain ⟨b1, e1, l1⟩ := byte_nat h 1
  obtain ⟨b2, e2, l2⟩ := byte_nat h 2
  obtain ⟨b3, e3, l3⟩ := byte_nat h 3
  have hn : num4 bs = ((b0 * 256 + b1) * 256 + b2) * 256 + b3 := by unfold num4; rw [e0, e1, e2, e3]; omega
  refine List.ext_getElem (by rw [nb_len, List.length_take]; omega) (fun j hj1 hj2 => ?_)
  rw [nb_len] at hj1
  have hb := nb_bytes (num4 bs) h4 j hj1
  rw [at', List.getD_eq_getElem?_getD, List.getElem?_eq_getElem (by rw [nb_len]; exact hj1), Option.getD_some] at hb
  have hr : (bs.take 4)[j] = at' bs j := by
    rw [List.getElem_take, at', List.getD_eq_getElem?_getD, List.getElem?_eq_getElem (by omega), Option.getD_some]
  rw [hb, hr, hn]
  match j, hj1 with
  | 0, _ => rw [e0]; omega
  | 1, _ => rw [e1]; omega
  | 2, _ => rw [e2]; omega
  | 3, _ => rw [e3]; omega
theorem take12 (bs : List Int) : bs.take 12 = bs.take 4 ++ (bs.drop 4).take 8 := by
  rw [show (12 : Nat) = 4 + 8 from rfl, List.take_add]
theorem flat_one (F : Nat → List Int) (a : Nat) : flat F a 1 = F a := by simp [flat]
theorem inB_flat {F : Nat → List Int} {n : Nat} (hF : ∀ i, i < n → InB (F i)) (a : Nat) : ∀ k, a + k ≤ n → InB (flat F a k)
  | 0, _ => fun x hx => by simp [flat] at hx
  | k + 1, h => by rw [flat_succ]; exact inB_append (inB_flat hF a k (by omega)) (hF _ (by omega))

section
variable {w : World} {bx br n : Nat} {Is Was : Nat → List Int} {Dt : Nat → Bool}
theorem f9_open (h : Xd w bx br n Is Was Dt) (hF : ∀ i, i < n → InB (Is i)) (hn : n ≤ 4096) :
    Calls Try.prog 9 #[ptr bx 0] w (Rv fun v w' => ∃ bl vout xs k u vs, v = .tuple #[ptr bl 0, vout] ∧ Runs Is n 0 0 xs k u ∧ w.heap.size ≤ bl ∧ Xl w' bl bx k u ∧
      w'.ownsRow w.heap.size 37 1 vout vs.length vs ∧ Recs w' w.heap.size vs xs ∧
      Xd w' bx br n (fun i => if i < u then Is i else zero64) (fun i => if i < u then Is i else zero64) (fun _ => false) ∧ Chg [br] w w') := by
  have hmx := max_big
  have hmx2 : maxLen ≤ 9223372036854775807 := by decide
  have hlt := h.lt
  have hne := h.ne
  refine calls_W (args := [ptr bx 0]) Try.func9 rfl Try.ntmps9 rfl ?_
  refine W_seq ?_
  refine W_region rfl ?_
  refine L_val rfl (x_assign (by conv => lhs; whnf)) ?_
  refine L_val rfl (x_assign (by conv => lhs; whnf)) ?_
  refine L_nil ?_
  refine W_seq ?_
  refine W_region rfl ?_
  refine L_val rfl (x_move (by conv => lhs; whnf)) ?_
  refine L_val rfl (x_build rfl (run_build w _ _ #[ptr bx 0, i64 ((0 : Nat) : Int), i64 ((0 : Nat) : Int)] (by kernel_rfl))) ?_
  refine L_box rfl (by conv => lhs; whnf) (fun w1 hb1 hc1 hs1 => ?_)
  refine L_val rfl (x_assign (by conv => lhs; whnf)) ?_
  refine L_nil ?_
  refine W_seq ?_
  refine W_region rfl ?_
  refine L_val rfl (x_assign (by conv => lhs; whnf)) ?_
  refine L_nil ?_
  have hL1 : Xl w1 w.heap.size bx 0 0 := hb1
  generalize hbl : w.heap.size = bl at *
  refine W_cut (I := fun f w2 => ∃ k u recs vout vs, Frm f [(0, ptr bx 0), (4, ptr bl 0), (5, vout)] ∧ Runs Is n 0 0 recs k u ∧ u ≤ n ∧ Xl w2 bl bx k u ∧ w2.ownsRow bl 37 1 vout vs.length vs ∧ Recs w2 bl vs recs ∧ Chg [] w w2) ?_ (fun f w2 hI => ?_)
  ·
    refine W_block ?_
    refine W_loop (fun mm f w2 => ∃ k u recs vout vs, u ≤ n ∧ k ≤ u ∧ mm = n - u ∧ Frm f [(0, ptr bx 0), (4, ptr bl 0), (5, vout)] ∧ (∀ ys k1 u1, Runs Is n k u ys k1 u1 → Runs Is n 0 0 (recs ++ ys) k1 u1) ∧ Xl w2 bl bx k u ∧ w2.ownsRow bl 37 1 vout vs.length vs ∧ recs.length = k ∧ Recs w2 bl vs recs ∧ Chg [] w w2) n
      ⟨0, 0, [], .slice none 0 0, [], by omega, by omega, rfl, ⟨rfl, rfl, rfl, trivial⟩, fun _ _ _ hh => hh, hL1, World.ownsRow_nil _ _ _ _, rfl, trivial, hc1⟩ (fun mm f w2 hI => ?_)
    obtain ⟨k, u, recs, vout, vs, hu, hku, rfl, hFr, hrun, hL, hown, hrl, hrs, hc2⟩ := hI
    obtain ⟨g, rfl⟩ := hFr.eta
    have hvl := hrs.len
    have hlen := h.lenI
    have hR := h.chg0 hc2
    have hL2 : w2.heap[bl]? = some (.cells #[ptr bx 0, i64 (k : Nat), i64 (u : Nat)] 62 (0, 0)) := hL
    have hstop : good Is n k u = none → Runs Is n 0 0 recs k u := fun hg => by have := hrun [] k u (.stop hg); simpa using this
    refine W_block ?_
    refine W_seq ?_
    refine W_region rfl ?_
    refine L_val rfl (x_move (by conv => lhs; whnf)) ?_
    refine L_val rfl (x_move (by conv => lhs; whnf)) ?_
    refine L_val rfl (x_nilCheck rfl) ?_
    refine L_val rfl (x_field fo_62_2 rfl) ?_
    refine L_val rfl (x_load sc3 rfl (cell_at (v := i64 (u : Nat)) hL2 rfl)) ?_
    refine L_call rfl (x_call ok29) (f29_bytes hR hn hu (m := 12) (by omega)) (fun v3 w3 ⟨hc3, hv3⟩ => ?_)
    refine L_val rfl (x_assign (v := v3) rfl) ?_
    refine L_nil ?_
    have hC3 := hc2.out hc3 (by simp)
    have hL3 : w3.heap[bl]? = some (.cells #[ptr bx 0, i64 (k : Nat), i64 (u : Nat)] 62 (0, 0)) := hc3.at hL2 (by simp)
    have hown3 := own_chg hown hc3 (by simp)
    have hrs3 := hrs.chg hc3 (by simp)
    refine W_seq ?_
    refine W_seq ?_
    by_cases hun : u < n
    · rw [if_pos (by omega), show (12 + 63) / 64 = 1 from rfl, flat_one] at hv3
      obtain ⟨a6, cap6, rfl, hb6, hn6⟩ := hv3
      refine W_region rfl ?_
      refine L_val rfl (x_move (by conv => lhs; whnf)) ?_
      refine L_val rfl (x_len el37 rfl) ?_
      refine L_val rfl (x_lss rfl rfl (decide_eq_false (by omega))) ?_
      refine L_nil ?_
      refine W_false rfl ?_
      refine W_skip ?_
      have hin := hF u hun
      have hul := hlen u hun
      obtain ⟨b0, e0, l0⟩ := byte_nat hin 0
      obtain ⟨b1, e1, l1⟩ := byte_nat hin 1
      obtain ⟨b2, e2, l2⟩ := byte_nat hin 2
      obtain ⟨b3, e3, l3⟩ := byte_nat hin 3
      have hq : num4 (Is u) = ((b0 * 256 + b1) * 256 + b2) * 256 + b3 := by unfold num4; rw [e0, e1, e2, e3]; omega
      have h12 : ((Is u).take 12).length = 12 := by rw [List.length_take]; omega
      obtain ⟨bb, ob, cap6', hv6, hlc6, _, hcell⟩ := hb6.some (by omega)
      simp only [Value.slice.injEq] at hv6
      obtain ⟨rfl, -, rfl⟩ := hv6
      have hcl : ∀ j, j < 4 → w3.cell? ⟨bb, ob + j * 1, none⟩ = some (u8 (at' (Is u) j)) := fun j hj => by
        rw [hcell j _ (by omega) (by omega)]
        simp [at', List.getD_eq_getElem?_getD, List.getElem?_take, show j < 12 by omega]
      refine W_seq ?_
      refine W_still mixed (by kernel_rfl) rfl ?_
      refine L_val rfl (x_move (by conv => lhs; whnf)) ?_
      refine L_val rfl (x_index el37 (i := 0) rfl rfl (by omega)) ?_
      refine L_val (v := u8 ((b0 : Nat) : Int)) rfl (x_load sc5 rfl (by rw [← e0]; exact hcl 0 (by omega))) ?_
      refine L_val rfl (x_conv kd5 kd3 rfl (wr64 (c := ((b0 : Nat) : Int)) (by omega) (by omega) (by omega))) ?_
      refine L_val rfl (x_shl (c := ((b0 * 16777216 : Nat) : Int)) rfl rfl (by omega) (by rw [show min (24 : Int).toNat IntKind.i64.bits = 24 from rfl]; exact wr64 (by omega) (by omega) (by omega))) ?_
      refine L_val rfl (x_move (by conv => lhs; whnf)) ?_
      refine L_val rfl (x_index el37 (i := 1) rfl rfl (by omega)) ?_
      refine L_val (v := u8 ((b1 : Nat) : Int)) rfl (x_load sc5 rfl (by rw [← e1]; exact hcl 1 (by omega))) ?_
      refine L_val rfl (x_conv kd5 kd3 rfl (wr64 (c := ((b1 : Nat) : Int)) (by omega) (by omega) (by omega))) ?_
      refine L_val rfl (x_shl (c := ((b1 * 65536 : Nat) : Int)) rfl rfl (by omega) (by rw [show min (16 : Int).toNat IntKind.i64.bits = 16 from rfl]; exact wr64 (by omega) (by omega) (by omega))) ?_
      refine L_val (v := i64 (((b0 * 256 + b1) * 65536 : Nat) : Int)) rfl (by have e := or_sh (A := b0) (s := 24) (b := b1 * 65536) (by omega) (by omega) (by omega); rw [show (b0 * 256 + b1) * 65536 = b0 * 2 ^ 24 + b1 * 65536 by omega, ← e]; exact x_or rfl rfl) ?_
      refine L_val rfl (x_move (by conv => lhs; whnf)) ?_
      refine L_val rfl (x_index el37 (i := 2) rfl rfl (by omega)) ?_
      refine L_val (v := u8 ((b2 : Nat) : Int)) rfl (x_load sc5 rfl (by rw [← e2]; exact hcl 2 (by omega))) ?_
      refine L_val rfl (x_conv kd5 kd3 rfl (wr64 (c := ((b2 : Nat) : Int)) (by omega) (by omega) (by omega))) ?_
      refine L_val rfl (x_shl (c := ((b2 * 256 : Nat) : Int)) rfl rfl (by omega) (by rw [show min (8 : Int).toNat IntKind.i64.bits = 8 from rfl]; exact wr64 (by omega) (by omega) (by omega))) ?_
      refine L_val (v := i64 ((((b0 * 256 + b1) * 256 + b2) * 256 : Nat) : Int)) rfl (by have e := or_sh (A := b0 * 256 + b1) (s := 16) (b := b2 * 256) (by omega) (by omega) (by omega); rw [show ((b0 * 256 + b1) * 256 + b2) * 256 = (b0 * 256 + b1) * 2 ^ 16 + b2 * 256 by omega, ← e]; exact x_or rfl rfl) ?_
      refine L_val rfl (x_move (by conv => lhs; whnf)) ?_
      refine L_val rfl (x_index el37 (i := 3) rfl rfl (by omega)) ?_
      refine L_val (v := u8 ((b3 : Nat) : Int)) rfl (x_load sc5 rfl (by rw [← e3]; exact hcl 3 (by omega))) ?_
      refine L_val rfl (x_conv kd5 kd3 rfl (wr64 (c := ((b3 : Nat) : Int)) (by omega) (by omega) (by omega))) ?_
      refine L_val (v := i64 ((num4 (Is u) : Nat) : Int)) rfl (by have e := or_sh (A := (b0 * 256 + b1) * 256 + b2) (s := 8) (b := b3) (by omega) (by omega) (by omega); rw [hq, show ((b0 * 256 + b1) * 256 + b2) * 256 + b3 = ((b0 * 256 + b1) * 256 + b2) * 2 ^ 8 + b3 by omega, ← e]; exact x_or rfl rfl) ?_
      refine L_val rfl (x_assign (by conv => lhs; whnf)) ?_
      refine L_nil ?_
      have hq4 := num4_lt hin
      generalize hqq : num4 (Is u) = q at *
      refine W_seq ?_
      refine W_seq ?_
      have hL3d : Xl w3.drew bl bx k u := (Chg.drew [] w3).at hL3 (by simp)
      have hown3d := own_chg hown3 (Chg.drew [] w3) (by simp)
      have hrs3d := hrs3.chg (Chg.drew [] w3) (by simp)
      have hC3d : Chg [] w w3.drew := hC3.d
      clear hL3 hown3 hrs3
      by_cases hq1 : q < 1
      · refine W_region rfl ?_
        refine L_val rfl (x_move (by conv => lhs; whnf)) ?_
        refine L_val rfl (x_lss rfl rfl (decide_eq_true (by omega))) ?_
        refine L_val rfl (x_move (by conv => lhs; whnf)) ?_
        refine L_no rfl ?_
        refine L_no rfl ?_
        refine L_val rfl (x_pick_t rfl (by conv => lhs; whnf)) ?_
        refine L_nil ?_
        refine W_true rfl ?_
        refine W_exit ?_
        exact ⟨k, u, recs, vout, vs, ⟨rfl, rfl, rfl, trivial⟩, hstop (by unfold good recAt; rw [hqq, if_neg (by omega)]), hu, hL3d, hown3d, hrs3d, hC3d⟩
      by_cases hq2 : 20000 < q
      · refine W_region rfl ?_
        refine L_val rfl (x_move (by conv => lhs; whnf)) ?_
        refine L_val rfl (x_lss rfl rfl (decide_eq_false (by omega))) ?_
        refine L_val rfl (x_move (by conv => lhs; whnf)) ?_
        refine L_val rfl (x_move (by conv => lhs; whnf)) ?_
        refine L_val rfl (x_gtr rfl rfl (decide_eq_true (by omega))) ?_
        refine L_val rfl (x_pick_f rfl (by conv => lhs; whnf)) ?_
        refine L_nil ?_
        refine W_true rfl ?_
        refine W_exit ?_
        exact ⟨k, u, recs, vout, vs, ⟨rfl, rfl, rfl, trivial⟩, hstop (by unfold good recAt; rw [hqq, if_neg (by omega)]), hu, hL3d, hown3d, hrs3d, hC3d⟩
      refine W_region rfl ?_
      refine L_val rfl (x_move (by conv => lhs; whnf)) ?_
      refine L_val rfl (x_lss rfl rfl (decide_eq_false (by omega))) ?_
      refine L_val rfl (x_move (by conv => lhs; whnf)) ?_
      refine L_val rfl (x_move (by conv => lhs; whnf)) ?_
      refine L_val rfl (x_gtr rfl rfl (decide_eq_false (by omega))) ?_
      refine L_val rfl (x_pick_f rfl (by conv => lhs; whnf)) ?_
      refine L_nil ?_
      refine W_false rfl ?_
      refine W_skip ?_
      refine W_seq ?_
      refine W_region rfl ?_
      refine L_val rfl (x_move (by conv => lhs; whnf)) ?_
      refine L_val rfl (x_move (by conv => lhs; whnf)) ?_
      refine L_val rfl (x_nilCheck rfl) ?_
      refine L_val rfl (x_field fo_62_2 rfl) ?_
      refine L_val rfl (x_load sc3 rfl (cell_at (v := i64 (u : Nat)) hL3d rfl)) ?_
      refine L_val rfl (x_move (by conv => lhs; whnf)) ?_
      refine L_val rfl (x_add rfl rfl (wr64 (c := ((q + 12 : Nat) : Int)) (by omega) (by omega) (by omega))) ?_
      refine L_call rfl (x_call ok29) (f29_bytes (h.chg0 hC3d) hn hu (m := q + 12) (by omega)) (fun v5 w5 ⟨hc5, hv5⟩ => ?_)
      refine L_val rfl (x_assign (v := v5) rfl) ?_
      refine L_nil ?_
      have hL5 : w5.heap[bl]? = some (.cells #[ptr bx 0, i64 (k : Nat), i64 (u : Nat)] 62 (0, 0)) := hc5.at hL3d (by simp)
      have hown5 := own_chg hown3d hc5 (by simp)
      have hrs5 := hrs3d.chg hc5 (by simp)
      have hC5 := hC3d.out hc5 (by simp)
      have hb65 : Bt w5 (.slice (some ⟨bb, ob, none⟩) 12 cap6) ((Is u).take 12) := Rw.chg0 (Rw.chg0 hb6 (Chg.drew [] w3)) hc5
      refine W_seq ?_
      refine W_seq ?_
      by_cases hfit : q + 12 ≤ (n - u) * 64
      · rw [if_pos hfit, show (q + 12 + 63) / 64 = (q + 75) / 64 by omega] at hv5
        obtain ⟨a8, cap8, rfl, hb8, hn8⟩ := hv5
        have hfl : (flat Is u ((q + 75) / 64)).length = 64 * ((q + 75) / 64) := flat_len hlen u _ (by omega)
        have hrec : recAt Is n u = some (((flat Is u ((q + 75) / 64)).drop 12).take q) := by unfold recAt; rw [hqq, if_pos ⟨hun, by omega, by omega, by omega⟩]
        have hxe : ((flat Is u ((q + 75) / 64)).take (q + 12)).drop 12 = ((flat Is u ((q + 75) / 64)).drop 12).take q := by rw [List.drop_take, show q + 12 - 12 = q by omega]
        have hxl : (((flat Is u ((q + 75) / 64)).drop 12).take q).length = q := by rw [List.length_take, List.length_drop, hfl]; omega
        have hxin : InB (((flat Is u ((q + 75) / 64)).drop 12).take q) := inB_sub (inB_flat hF u _ (by omega)) (fun x hx => List.mem_of_mem_drop (List.mem_of_mem_take hx))
        have hlc8 : q + 12 ≤ cap8 ∧ cap8 ≤ maxLen := by obtain ⟨_, _, e, h1, h2, _⟩ := hb8; simp only [Value.slice.injEq] at e; omega
        have hbx8 : Bt w5 (.slice (baseAt a8 cap8 12 1) (q + 12 - 12) (cap8 - 12)) (((flat Is u ((q + 75) / 64)).drop 12).take q) := by
          have := hb8.drop (l := 12) (by rw [List.length_take, hfl]; omega) (by omega)
          rw [hxe] at this; exact this
        generalize hxx : ((flat Is u ((q + 75) / 64)).drop 12).take q = x at *
        have hgood : good Is n k u = if sumB x k = wantAt Is u then some x else none := by unfold good; rw [hrec]
        have hnbq : nb ((q : Nat) : Int) 4 = (Is u).take 4 := by rw [← hqq]; exact nb_num4 hin (by omega)
        have hcmp : (nb ((x.length : Nat) : Int) 4 ++ sumB x k = (Is u).take 12) ↔ sumB x k = wantAt Is u := by
          rw [hxl, hnbq, take12]
          exact ⟨fun e => List.append_cancel_left e, fun e => by rw [e]; rfl⟩
        refine W_heldN (fun w' => w'.heap[bl]? = some (.cells #[ptr bx 0, i64 (k : Nat), i64 (u : Nat)] 62 (0, 0))) 17 mixed rfl ?_
        have hS : w5.drew.heap[bl]? = some (.cells #[ptr bx 0, i64 (k : Nat), i64 (u : Nat)] 62 (0, 0)) := hL5
        refine H_take 0 rfl (by kernel_rfl) (by kernel_rfl) (by kernel_rfl) rfl rfl hS (fun w' hq => x_move (v := .slice a8 (q + 12) cap8) rfl) ?_
        refine H_take 1 rfl (by kernel_rfl) (by kernel_rfl) (by kernel_rfl) rfl rfl hS (fun w' hq => x_len el37 rfl) ?_
        refine H_take 2 rfl (by kernel_rfl) (by kernel_rfl) (by kernel_rfl) rfl rfl hS (fun w' hq => x_move (v := i64 (q : Nat)) rfl) ?_
        refine H_take 3 rfl (by kernel_rfl) (by kernel_rfl) (by kernel_rfl) rfl rfl hS (fun w' hq => x_add rfl rfl (wr64 (c := ((q + 12 : Nat) : Int)) (by omega) (by omega) (by omega))) ?_
        refine H_take 4 rfl (by kernel_rfl) (by kernel_rfl) (by kernel_rfl) rfl rfl hS (fun w' hq => x_lss rfl rfl (decide_eq_false (by omega))) ?_
        refine H_take 5 rfl (by kernel_rfl) (by kernel_rfl) (by kernel_rfl) rfl rfl hS (fun w' hq => x_move (v := .bool false) rfl) ?_
        refine H_take 6 rfl (by kernel_rfl) (by kernel_rfl) (by kernel_rfl) rfl rfl hS (fun w' hq => x_move (v := .slice a8 (q + 12) cap8) rfl) ?_
        refine H_take 7 rfl (by kernel_rfl) (by kernel_rfl) (by kernel_rfl) rfl rfl hS (fun w' hq => x_sliceL (l := 12) el37 rfl rfl (by omega)) ?_
        refine H_take 8 rfl (by kernel_rfl) (by kernel_rfl) (by kernel_rfl) rfl rfl hS (fun w' hq => x_move (v := ptr bl 0) rfl) ?_
        refine H_take 9 rfl (by kernel_rfl) (by kernel_rfl) (by kernel_rfl) rfl rfl hS (fun w' hq => x_nilCheck rfl) ?_
        refine H_take 10 rfl (by kernel_rfl) (by kernel_rfl) (by kernel_rfl) rfl rfl hS (fun w' hq => x_field fo_62_1 rfl) ?_
        refine H_take 11 rfl (by kernel_rfl) (by kernel_rfl) (by kernel_rfl) rfl rfl hS (fun w' hq => x_load sc3 rfl (cell_at (v := i64 (k : Nat)) hq rfl)) ?_
        refine H_take 13 rfl (by kernel_rfl) (by kernel_rfl) (by kernel_rfl) rfl rfl hS (fun w' hq => x_move (v := .slice (some ⟨bb, ob, none⟩) 12 cap6) rfl) ?_
        refine H_one 12 (by kernel_rfl) (S_call rfl rfl rfl (x_call ok31) (f31_front (k := k) (hbx8.chg0 (Chg.drew [] w5)) (by omega) (by omega)) (fun v6 w6 ⟨ho6, hc6⟩ => ?_))
        have hS6 : w6.heap[bl]? = some (.cells #[ptr bx 0, i64 (k : Nat), i64 (u : Nat)] 62 (0, 0)) := hc6.at hS (by simp)
        refine ⟨hS6, ?_⟩
        have hb66 : Bt w6 (.slice (some ⟨bb, ob, none⟩) 12 cap6) ((Is u).take 12) := Rw.chg0 (Rw.chg0 hb65 (Chg.drew [] w5)) hc6
        refine H_one 14 (by kernel_rfl) (S_enterQ rfl rfl rfl (x_call ok30) (f30_same ho6.bt hb66 (inB_append (inB_nb _ _) (inB_sub (fun x hx => sha_range _ x hx) (fun x hx => List.mem_of_mem_take hx))) (inB_sub hin (fun x hx => List.mem_of_mem_take hx))) hS6 ?_)
        refine H_take 15 rfl (by kernel_rfl) (by kernel_rfl) (by kernel_rfl) rfl rfl hS6 (fun w' hq => x_not rfl) ?_
        refine H_take 16 rfl (by kernel_rfl) (by kernel_rfl) (by kernel_rfl) rfl rfl hS6 (fun w' hq => x_pick_f rfl rfl) ?_
        refine H_done (by kernel_rfl) ?_
        have hC6 : Chg [] w w6 := hC5.d.out hc6 (by simp)
        have hown6 := own_chg (own_chg hown5 (Chg.drew [] w5) (by simp)) hc6 (by simp)
        have hrs6 := (hrs5.chg (Chg.drew [] w5) (by simp)).chg hc6 (by simp)
        by_cases hsum : sumB x k = wantAt Is u
        · rw [if_pos hsum] at hgood
          refine W_false (congrArg (fun b => Value.bool !b) (decide_eq_true (hcmp.2 hsum))) ?_
          refine W_skip ?_
          have hbx6 : Bt w6 (.slice (baseAt a8 cap8 12 1) (q + 12 - 12) (cap8 - 12)) x := Rw.chg0 (Rw.chg0 hbx8 (Chg.drew [] w5)) hc6
          have hrec2 : (k + 1 ≤ u + (q + 75) / 64) := by omega
          refine W_seq ?_
          refine W_region rfl ?_
          refine L_val rfl (x_move (v := vout) rfl) ?_
          refine L_val rfl (x_move (by conv => lhs; whnf)) ?_
          refine L_val rfl (x_sliceL (l := 12) el37 rfl rfl (by omega)) ?_
          refine L_one e1_22 rfl (by conv => lhs; whnf) rfl (fun w7 hb7 hc7 hs7 => ?_)
          refine L_append e1_22 rfl rfl rfl (own_chg hown6 hc7 (by simp)) (Rw.one hb7) (fun u hu => by rw [List.mem_singleton.1 hu]; rfl) (by simp only [List.length_singleton]; omega) (by simp only [List.length_singleton]; omega) (by have := hC6.size; omega) (fun v8 w8 ha8 => ?_)
          refine L_val rfl (x_assign (v := v8) rfl) ?_
          refine L_nil ?_
          have ho8 := ha8.own
          have hne8 : bl ∉ vout.ownBlock.toList := own_ne (e := 37) (hc7.at hS6 (by simp)) (by decide) (own_chg hown6 hc7 (by simp))
          have hL8 : w8.heap[bl]? = some (.cells #[ptr bx 0, i64 (k : Nat), i64 (u : Nat)] 62 (0, 0)) := ha8.chg.at (hc7.at hS6 (by simp)) hne8
          have hx6 : Bt w6 (.slice (baseAt a8 cap8 12 1) (q + 12 - 12) (cap8 - 12)) x ∧ ∀ b, (Value.slice (baseAt a8 cap8 12 1) (q + 12 - 12) (cap8 - 12)).ownBlock = some b → bl ≤ b ∧ Bk w6 b := ⟨hbx6, fun b hb => by
            rw [ownBlock_baseAt (n' := q + 12) (cap' := cap8)] at hb
            have h1 := hn8 b hb
            have h2 := hC3d.size
            exact ⟨by omega, (h1.2.chg (Chg.drew [] w5) (by simp)).chg hc6 (by simp)⟩⟩
          have hrs8 := (((hrs6.add hx6).chg hc7 (by simp)).chg ha8.chg (fun b hb => by
            obtain ⟨c, T, z, hb, hT⟩ := hb
            exact own_ne hb (by rcases hT with rfl | rfl <;> decide) (own_chg hown6 hc7 (by simp))))
          have hC8 : Chg [] w w8 := (hC6.trans0 hc7).out ha8.chg (fun k hk => Nat.le_trans (Nat.le_of_eq hbl) (own_new hown6 k hk))
          have ho8' : w8.ownsRow bl 37 1 v8 (vs ++ [Value.slice (baseAt a8 cap8 12 1) (q + 12 - 12) (cap8 - 12)]).length (vs ++ [Value.slice (baseAt a8 cap8 12 1) (q + 12 - 12) (cap8 - 12)]) := ho8
          refine W_seq ?_
          refine W_region rfl ?_
          refine L_val rfl (x_move (by conv => lhs; whnf)) ?_
          refine L_val rfl (x_nilCheck rfl) ?_
          refine L_val rfl (x_field fo_62_1 rfl) ?_
          refine L_val rfl (x_load sc3 rfl (cell_at (v := i64 (k : Nat)) hL8 rfl)) ?_
          refine L_val rfl (x_add rfl rfl (wr64 (c := ((k + 1 : Nat) : Int)) (by omega) (by omega) (by omega))) ?_
          refine L_val rfl (x_nilCheck rfl) ?_
          refine L_val rfl (x_field fo_62_1 rfl) ?_
          refine L_store (v := i64 ((k + 1 : Nat) : Int)) sz3 rfl rfl rfl rfl hL8 (by simp) (fun w9 hb9 hc9 => ?_)
          refine L_nil ?_
          have hb9' : w9.drew.heap[bl]? = some (.cells #[ptr bx 0, i64 ((k + 1 : Nat) : Int), i64 (u : Nat)] 62 (0, 0)) := hb9
          refine W_tail 10 mixed (by kernel_rfl) rfl ?_
          refine L_val rfl (x_move (by conv => lhs; whnf)) ?_
          refine L_val rfl (x_move (by conv => lhs; whnf)) ?_
          refine L_val rfl (x_nilCheck rfl) ?_
          refine L_val rfl (x_field fo_62_2 rfl) ?_
          refine L_val rfl (x_load sc3 rfl (cell_at (v := i64 (u : Nat)) hb9' rfl)) ?_
          refine L_val rfl (x_move (by conv => lhs; whnf)) ?_
          refine L_enterQ rfl (x_call ok32) (f32_sectors (m := q) (by omega)) ?_
          refine L_val rfl (x_add rfl rfl (wr64 (c := ((u + (q + 75) / 64 : Nat) : Int)) (by omega) (by omega) (by omega))) ?_
          refine L_val rfl (x_nilCheck rfl) ?_
          refine L_val rfl (x_field fo_62_2 rfl) ?_
          refine L_nil ?_
          refine L_store (v := i64 ((u + (q + 75) / 64 : Nat) : Int)) sz3 rfl rfl rfl rfl hb9' (by simp) (fun w10 hb10 hc10 => ?_)
          refine L_nil ?_
          have hc810 : Chg [bl] w8 w10 := hc9.d.same hc10
          have hblne : ∀ b, Bk w8 b → b ∉ [bl] := fun b hb hm => by
            have hm : b = bl := by simpa using hm
            subst hm
            exact hb.ne hL8 (by decide) rfl
          have hvne : ∀ b, v8.ownBlock = some b → b ∉ [bl] := fun b hb hm => by
            have hm : b = bl := by simpa using hm
            subst hm
            exact own_ne (e := 37) hL8 (by decide) ho8' (by simp [hb])
          refine ⟨n - (u + (q + 75) / 64), by omega, k + 1, u + (q + 75) / 64, recs ++ [x], v8, vs ++ [Value.slice (baseAt a8 cap8 12 1) (q + 12 - 12) (cap8 - 12)], by omega, by omega, rfl, ⟨rfl, rfl, rfl, trivial⟩, fun ys k1 u1 hh => ?_, hb10, own_chg ho8' hc810 hvne, by rw [List.length_append, hrl]; rfl, hrs8.chg hc810 hblne, hC8.out hc810 (by simp; omega)⟩
          rw [List.append_assoc]
          refine hrun _ _ _ (.step hgood ?_)
          rw [hxl]
          exact hh
        · rw [if_neg hsum] at hgood
          refine W_true (congrArg (fun b => Value.bool !b) (decide_eq_false (fun hh => hsum (hcmp.1 hh)))) ?_
          refine W_exit ?_
          exact ⟨k, u, recs, vout, vs, ⟨rfl, rfl, rfl, trivial⟩, hstop hgood, hu, hS6, hown6, hrs6, hC6⟩
      · rw [if_neg hfit] at hv5
        subst hv5
        refine W_still mixed (by kernel_rfl) rfl ?_
        refine L_val rfl (x_move (by conv => lhs; whnf)) ?_
        refine L_val rfl (x_len el37 rfl) ?_
        refine L_val rfl (x_move (by conv => lhs; whnf)) ?_
        refine L_val rfl (x_add rfl rfl (wr64 (c := ((q + 12 : Nat) : Int)) (by omega) (by omega) (by omega))) ?_
        refine L_val rfl (x_lss rfl rfl (decide_eq_true (by omega))) ?_
        refine L_val rfl (x_move (by conv => lhs; whnf)) ?_
        refine L_no rfl ?_
        refine L_no rfl ?_
        refine L_no rfl ?_
        refine L_no rfl ?_
        refine L_no rfl ?_
        refine L_no rfl ?_
        refine L_no rfl ?_
        refine L_no rfl ?_
        refine L_no rfl ?_
        refine L_no rfl ?_
        refine L_val rfl (x_pick_t rfl (by conv => lhs; whnf)) ?_
        refine L_nil ?_
        refine W_true rfl ?_
        refine W_exit ?_
        exact ⟨k, u, recs, vout, vs, ⟨rfl, rfl, rfl, trivial⟩, hstop (by unfold good recAt; rw [hqq, if_neg (by omega)]), hu, (Chg.drew [] w5).at hL5 (by simp), own_chg hown5 (Chg.drew [] w5) (by simp), hrs5.chg (Chg.drew [] w5) (by simp), hC5.d⟩
    · rw [if_neg (by omega)] at hv3
      subst hv3
      refine W_region rfl ?_
      refine L_val rfl (x_move (by conv => lhs; whnf)) ?_
      refine L_val rfl (x_len el37 rfl) ?_
      refine L_val rfl (x_lss rfl rfl rfl) ?_
      refine L_nil ?_
      refine W_true rfl ?_
      refine W_exit ?_
      exact ⟨k, u, recs, vout, vs, ⟨rfl, rfl, rfl, trivial⟩, hstop (by unfold good recAt; rw [if_neg (by omega)]), hu, hL3, hown3, hrs3, hC3⟩
  obtain ⟨k, u, recs, vout, vs, hFr, hruns, hu, hL, hown, hrs, hc2⟩ := hI
  obtain ⟨g, rfl⟩ := hFr.eta
  have hL2 : w2.heap[bl]? = some (.cells #[ptr bx 0, i64 (k : Nat), i64 (u : Nat)] 62 (0, 0)) := hL
  have hR2 := h.chg0 hc2
  refine W_seq ?_
  refine W_seq ?_
  refine W_region rfl ?_
  refine L_val rfl (x_move (by conv => lhs; whnf)) ?_
  refine L_val rfl (x_nilCheck rfl) ?_
  refine L_val rfl (x_field fo_62_2 rfl) ?_
  refine L_val rfl (x_load sc3 rfl (cell_at (v := i64 (u : Nat)) hL2 rfl)) ?_
  refine L_val rfl (x_assign (by conv => lhs; whnf)) ?_
  refine L_nil ?_
  refine W_block ?_
  refine W_loop (fun mm f w3 => ∃ i, i ≤ n ∧ u ≤ i ∧ mm = n - i ∧ Frm f [(0, ptr bx 0), (4, ptr bl 0), (5, vout), (9, i64 (i : Nat))] ∧ Xd w3 bx br n (fun j => if u ≤ j ∧ j < i then zero64 else Is j) Was Dt ∧ Chg [br] w2 w3) (n - u)
    ⟨u, by omega, by omega, rfl, ⟨rfl, rfl, rfl, rfl, trivial⟩, hR2.same (fun j _ => (if_neg (by omega)).symm) (fun _ _ => rfl) (fun _ _ => rfl), Chg.refl _ _⟩ (fun mm f w3 hI => ?_)
  obtain ⟨i, hi, hui, rfl, hFr, hR3, hc3⟩ := hI
  obtain ⟨g, rfl⟩ := hFr.eta
  refine W_seq ?_
  refine W_seq ?_
  refine W_region rfl ?_
  refine L_val rfl (x_move (by conv => lhs; whnf)) ?_
  refine L_val rfl (x_move (by conv => lhs; whnf)) ?_
  refine L_val rfl (x_nilCheck rfl) ?_
  refine L_val rfl (x_field fo_60_0 rfl) ?_
  refine L_val rfl (x_load sc58 rfl (cell_at (v := .slice (some ⟨br, 0, none⟩) n n) hR3.desc rfl)) ?_
  refine L_val rfl (x_len el58 rfl) ?_
  refine L_val rfl (x_lss rfl rfl rfl) ?_
  refine L_nil ?_
  by_cases hcond : i < n
  · refine W_true (congrArg Value.bool (decide_eq_true (by omega))) ?_
    refine W_skip ?_
    refine W_seq ?_
    refine W_block ?_
    obtain ⟨c, hrow, hcs⟩ := hR3.row
    refine W_region rfl ?_
    refine L_val rfl (x_move (by conv => lhs; whnf)) ?_
    refine L_val rfl (x_nilCheck rfl) ?_
    refine L_val rfl (x_field fo_60_0 rfl) ?_
    refine L_val rfl (x_load sc58 rfl (cell_at (v := .slice (some ⟨br, 0, none⟩) n n) hR3.desc rfl)) ?_
    refine L_val rfl (x_move (by conv => lhs; whnf)) ?_
    refine L_val rfl (x_build rfl (run_build w3 _ _ (L8 zero64) (by kernel_rfl))) ?_
    refine L_val rfl (x_index el58 (i := i) rfl rfl hcond) ?_
    refine L_val rfl (x_field fo_69_0 rfl) ?_
    refine L_storeAgg (cs := L8 zero64) sz67 rfl rfl rfl (by rw [L8_size]; exact zero64_len) (L8_one _) hrow (by omega) (fun w4 hb4 hc4 => ?_)
    refine L_nil ?_
    have hR4 := hR3.setI hcond zero64_len hrow (show 0 + i * 129 + 0 = 129 * i by omega) hb4 hc4
    refine W_region rfl ?_
    refine L_val rfl (x_move (by conv => lhs; whnf)) ?_
    refine L_val rfl (x_add rfl rfl (wr64 (c := ((i + 1 : Nat) : Int)) (by omega) (by omega) (by omega))) ?_
    refine L_val rfl (x_assign (by conv => lhs; whnf)) ?_
    refine L_nil ?_
    refine ⟨n - (i + 1), by omega, i + 1, by omega, by omega, rfl, ⟨rfl, rfl, rfl, rfl, trivial⟩, hR4.same (fun j _ => ?_) (fun _ _ => rfl) (fun _ _ => rfl), hc3.same hc4⟩
    by_cases e : j = i
    · subst e; rw [if_pos rfl, if_pos (by omega)]
    · rw [if_neg e]
      by_cases e2 : u ≤ j ∧ j < i
      · rw [if_pos e2, if_pos (by omega)]
      · rw [if_neg e2, if_neg (by omega)]
  · refine W_false (congrArg Value.bool (decide_eq_false (by omega))) ?_
    refine W_exit ?_
    have hin : i = n := by omega
    subst hin
    refine W_seq ?_
    refine W_region rfl ?_
    refine L_val rfl (x_move (by conv => lhs; whnf)) ?_
    have hR5 := hR3.same (Is' := fun j => if j < u then Is j else zero64) (fun j hj => by
      by_cases e : j < u
      · rw [if_pos e, if_neg (by omega)]
      · rw [if_neg e, if_pos (by omega)]) (fun _ _ => rfl) (fun _ _ => rfl)
    refine L_call rfl (x_call ok11) (f11_sync hR5 hn) (fun v6 w6 ⟨hR6, hc6⟩ => ?_)
    refine L_nil ?_
    refine W_seq ?_
    refine W_region rfl ?_
    refine L_val rfl (x_move (by conv => lhs; whnf)) ?_
    refine L_val rfl (x_move (v := vout) rfl) ?_
    refine L_val rfl (x_assign (by conv => lhs; whnf)) ?_
    refine L_val rfl (x_assign (v := vout) rfl) ?_
    refine L_nil ?_
    refine W_ret ?_
    have hc26 : Chg [br] w2 w6 := hc3.same hc6
    have hbr : br < bl := by omega
    exact res2 rfl rfl rfl ⟨bl, vout, recs, k, u, vs, rfl, hruns, Nat.le_refl _, hc26.at hL2 (by simp; omega), own_chg hown hc26 (fun b hb => by have := (hown.lt b hb).1; simp; omega), hrs.low hc26 (by simp; omega), hR6, (hc2.mono (by simp)).same hc26⟩
end
end Go.Proofs.Ytinoebjhcmeppaa
