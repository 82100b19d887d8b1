/- The walks of the program's pack.Reader, slices.Equal and wal.sum. -/
import Derived.Test.YtinoebjhcmeppaaPack
import Derived.Lib.SlBytesConst
namespace Go.Proofs.Ytinoebjhcmeppaa
open E Sha
set_option maxRecDepth 100000
set_option maxHeartbeats 2000000

/-- A reader that has these bytes left. -/
def Rd (w : World) (br : Nat) (bs : List Int) (wr : Bool) : Prop :=
  ∃ v, w.heap[br]? = some (.cells #[v, .bool wr] 102 (0, 0)) ∧ Bt w v bs ∧ ∀ b, v.ownBlock = some b → b ≠ br
theorem own_slice {w : World} {base e n : Nat} {v : Value} {xs : List Value} (h : w.ownsRow base e 1 v n xs) : ∃ a cap, v = .slice a n cap := by
  rcases h.2 with ⟨rfl, h0⟩ | ⟨g, cap, cur, rfl, _⟩
  · exact ⟨none, 0, by rw [h0]⟩
  · exact ⟨_, cap, rfl⟩

theorem own_weak {w : World} {base base' e s n : Nat} {v : Value} {xs : List Value} (h : w.ownsRow base e s v n xs) (hb : base' ≤ base) : w.ownsRow base' e s v n xs := by
  obtain ⟨h0, h⟩ := h
  refine ⟨h0, ?_⟩
  rcases h with h | ⟨g, cap, cur, rfl, hg, h1⟩
  · exact .inl h
  · exact .inr ⟨g, cap, cur, rfl, by omega, h1⟩

theorem f42_new {w : World} {x : Value} {ys : List Int} (hx : Bt w x ys) (hlen : ys.length ≤ 549755813888) :
    Calls Try.prog 42 #[x] w (Rv fun v w' => ∃ br, v = ptr br 0 ∧ w.heap.size ≤ br ∧ Rd w' br ys false ∧ Chg [] w w') := by
  have hmx := max_big
  refine calls_W (args := [x]) Try.func42 rfl Try.ntmps42 rfl ?_
  refine W_seq ?_
  refine W_region rfl ?_
  refine L_val rfl (x_assign (by conv => lhs; whnf)) ?_
  refine L_nil ?_
  refine W_seq ?_
  refine W_region rfl ?_
  refine L_none e1_37 rfl (fun w1 hb1 hc1 hs1 => ?_)
  refine L_val rfl (x_move (v := x) rfl) ?_
  refine L_append (base := w.heap.size) (xs := []) (n := 0) e1_37 rfl rfl rfl (owns_block hb1 (Nat.le_refl _) rfl rfl (by decide)) (hx.chg0 hc1) (b8 ys) (by simp; omega) (by simp; omega) (by omega) (fun v' w2 ha => ?_)
  have hown := ha.own
  rw [List.nil_append, List.length_map] at hown
  obtain ⟨a, cap, rfl⟩ := own_slice hown
  refine L_val rfl (x_build rfl (run_build w2 _ _ #[.slice a ys.length cap, .bool false] (by kernel_rfl))) ?_
  refine L_box rfl (by conv => lhs; whnf) (fun w3 hb3 hc3 hs3 => ?_)
  refine L_val rfl (x_assign (by conv => lhs; whnf)) ?_
  refine L_nil ?_
  refine W_ret ?_
  have hc2 : Chg [] w w2 := hc1.trans ha.chg (fun k hk => .inr (by have hk' : k ∈ (Value.slice (some ⟨w.heap.size, 0, none⟩) 0 0).ownBlock.toList := hk; simp [Value.ownBlock] at hk'; omega))
  refine res1 rfl rfl ⟨_, rfl, hc2.size, ⟨_, hb3, (Rw.of_own hown).chg0 hc3, fun b hb => ?_⟩, hc2.same hc3⟩
  have := (hown.lt b hb).2
  omega

theorem f57_right {w : World} {br n : Nat} {bs : List Int} {wr : Bool} (hR : Rd w br bs wr) (hlen : bs.length ≤ 549755813888) (hn : n ≤ 549755813888) :
    Calls Try.prog 57 #[ptr br 0, i64 (n : Nat)] w (Rv fun v w' => v = .bool (!(wr || decide ((bs.length : Int) < n))) ∧ Rd w' br bs (wr || decide ((bs.length : Int) < n)) ∧
      (∀ v, w.heap[br]? = some (.cells #[v, .bool wr] 102 (0, 0)) → w'.heap[br]? = some (.cells #[v, .bool (wr || decide ((bs.length : Int) < n))] 102 (0, 0))) ∧ Chg [br] w w') := by
  obtain ⟨v, hb, hB, hne⟩ := hR
  obtain ⟨a, cap, rfl⟩ := hB.is
  have hB2 : ∀ {w' : World}, Chg [br] w w' → Bt w' (.slice a bs.length cap) bs := fun hc => hB.chg hc (fun b hb hm => hne b hb (by simpa using hm))
  refine calls_W (args := [ptr br 0, i64 (n : Nat)]) Try.func57 rfl Try.ntmps57 rfl ?_
  refine W_seq ?_
  refine W_region rfl ?_
  refine L_val rfl (x_assign (by conv => lhs; whnf)) ?_
  refine L_nil ?_
  refine W_seq ?_
  refine W_seq ?_
  refine W_region rfl ?_
  refine L_val rfl (x_move (by conv => lhs; whnf)) ?_
  refine L_val rfl (x_eqlNil pt85 rfl rfl) ?_
  refine L_nil ?_
  refine W_false rfl ?_
  refine W_skip ?_
  refine W_seq ?_
  refine W_region rfl ?_
  refine L_val rfl (x_move (by conv => lhs; whnf)) ?_
  refine L_val rfl (x_move (by conv => lhs; whnf)) ?_
  refine L_val rfl (x_nilCheck rfl) ?_
  refine L_val rfl (x_field fo_102_1 rfl) ?_
  refine L_val rfl (x_load sc4 rfl (cell_at (v := .bool wr) hb rfl)) ?_
  refine L_val rfl (x_move (by conv => lhs; whnf)) ?_
  cases wr with
  | true =>
    refine L_no rfl ?_
    refine L_no rfl ?_
    refine L_val rfl (x_pick_t rfl (by conv => lhs; whnf)) ?_
    refine L_val rfl (x_move (by conv => lhs; whnf)) ?_
    refine L_no rfl ?_
    refine L_no rfl ?_
    refine L_no rfl ?_
    refine L_no rfl ?_
    refine L_no rfl ?_
    refine L_no rfl ?_
    refine L_no rfl ?_
    refine L_val rfl (x_pick_t rfl (by conv => lhs; whnf)) ?_
    refine L_val rfl (x_nilCheck rfl) ?_
    refine L_val rfl (x_field fo_102_1 rfl) ?_
    refine L_store sz4 rfl rfl (by conv => lhs; whnf) rfl hb (by simp) (fun w1 hb1 hc1 => ?_)
    refine L_nil ?_
    refine W_seq ?_
    refine W_region rfl ?_
    refine L_val rfl (x_move (by conv => lhs; whnf)) ?_
    refine L_val rfl (x_nilCheck rfl) ?_
    refine L_val rfl (x_field fo_102_1 rfl) ?_
    refine L_val rfl (x_load sc4 rfl (cell_at (v := .bool true) hb1 rfl)) ?_
    refine L_val rfl (x_not rfl) ?_
    refine L_val rfl (x_assign (by conv => lhs; whnf)) ?_
    refine L_nil ?_
    refine W_ret ?_
    exact res1 rfl rfl ⟨rfl, ⟨_, hb1, hB2 hc1, hne⟩, fun v hv => by rw [hb] at hv; simp at hv; subst hv; exact hb1, hc1⟩
  | false =>
    refine L_val rfl (x_move (by conv => lhs; whnf)) ?_
    refine L_val rfl (x_lss (r := false) rfl rfl (decide_eq_false (by omega))) ?_
    refine L_val rfl (x_pick_f rfl (by conv => lhs; whnf)) ?_
    refine L_val rfl (x_move (by conv => lhs; whnf)) ?_
    refine L_val rfl (x_move (by conv => lhs; whnf)) ?_
    refine L_val rfl (x_move (by conv => lhs; whnf)) ?_
    refine L_val rfl (x_nilCheck rfl) ?_
    refine L_val rfl (x_field fo_102_0 rfl) ?_
    refine L_val rfl (x_load sc37 rfl (cell_at (v := .slice a bs.length cap) hb rfl)) ?_
    refine L_val rfl (x_len el37 rfl) ?_
    refine L_val rfl (x_gtr rfl rfl rfl) ?_
    refine L_val rfl (x_pick_f rfl (by conv => lhs; whnf)) ?_
    refine L_val rfl (x_nilCheck rfl) ?_
    refine L_val rfl (x_field fo_102_1 rfl) ?_
    refine L_store sz4 rfl rfl (by conv => lhs; whnf) rfl hb (by simp) (fun w1 hb1 hc1 => ?_)
    refine L_nil ?_
    refine W_seq ?_
    refine W_region rfl ?_
    refine L_val rfl (x_move (by conv => lhs; whnf)) ?_
    refine L_val rfl (x_nilCheck rfl) ?_
    refine L_val rfl (x_field fo_102_1 rfl) ?_
    refine L_val rfl (x_load sc4 rfl (cell_at (v := .bool (decide ((bs.length : Int) < n))) hb1 rfl)) ?_
    refine L_val rfl (x_not rfl) ?_
    refine L_val rfl (x_assign (by conv => lhs; whnf)) ?_
    refine L_nil ?_
    refine W_ret ?_
    refine res1 rfl rfl ⟨by rw [Bool.false_or]; rfl, ?_, ?_, hc1⟩
    · rw [Bool.false_or]; exact ⟨_, hb1, hB2 hc1, hne⟩
    · intro v hv
      rw [hb] at hv; simp at hv; subst hv
      rw [Bool.false_or]; exact hb1

/-- A number of four bytes, as the reader reckons it. -/
def nm (bs : List Int) : Nat → Int
  | 0 => 0
  | i + 1 => bits .or .u64 (IntKind.u64.wrap (nm bs i * 2 ^ 8)) (IntKind.u64.wrap (at' bs i))

theorem f43_num {w : World} {br : Nat} {bs : List Int} {wr : Bool} (hR : Rd w br bs wr) (hlen : bs.length ≤ 549755813888) :
    Calls Try.prog 43 #[ptr br 0, i64 4] w (Rv fun v w' => (if wr = false ∧ 4 ≤ bs.length then v = u64 (nm bs 4) ∧ Rd w' br (bs.drop 4) false else v = u64 0 ∧ Rd w' br bs true) ∧ Chg [br] w w') := by
  refine calls_W (args := [ptr br 0, i64 4]) Try.func43 rfl Try.ntmps43 rfl ?_
  refine W_seq ?_
  refine W_region rfl ?_
  refine L_val rfl (x_assign (by conv => lhs; whnf)) ?_
  refine L_nil ?_
  refine W_seq ?_
  refine W_seq ?_
  refine W_region rfl ?_
  refine L_val rfl (x_move (by conv => lhs; whnf)) ?_
  refine L_val rfl (x_lss (r := false) rfl rfl (by decide)) ?_
  refine L_val rfl (x_move (by conv => lhs; whnf)) ?_
  refine L_val rfl (x_move (by conv => lhs; whnf)) ?_
  refine L_val rfl (x_gtr (r := false) rfl rfl (by decide)) ?_
  refine L_val rfl (x_pick_f rfl (by conv => lhs; whnf)) ?_
  refine L_nil ?_
  refine W_false rfl ?_
  refine W_skip ?_
  refine W_seq ?_
  refine W_region rfl ?_
  refine L_val rfl (x_assign (by conv => lhs; whnf)) ?_
  refine L_nil ?_
  refine W_seq ?_
  refine W_seq ?_
  refine W_region rfl ?_
  refine L_val rfl (x_move (by conv => lhs; whnf)) ?_
  refine L_val rfl (x_move (by conv => lhs; whnf)) ?_
  refine L_call rfl (x_call ok57) (f57_right (n := 4) hR hlen (by decide)) (fun v w1 ⟨hv, hR1, _, hc1⟩ => ?_)
  subst hv
  refine L_val rfl (x_not rfl) ?_
  refine L_nil ?_
  by_cases hcond : wr = false ∧ 4 ≤ bs.length
  · obtain ⟨rfl, h4⟩ := hcond
    have hd : (false || decide ((bs.length : Int) < ((4 : Nat) : Int))) = false := by rw [Bool.false_or]; exact decide_eq_false (by omega)
    refine W_false (congrArg (fun b => Value.bool (!(!b))) hd) ?_
    refine W_skip ?_
    rw [hd] at hR1
    obtain ⟨v, hb, hB, hne⟩ := hR1
    obtain ⟨a0, cap, rfl⟩ := hB.is
    have hls := hB.lens
    obtain ⟨b, o, cap', hv', -, -, hcell⟩ := hB.some (by omega)
    simp only [Value.slice.injEq] at hv'
    obtain ⟨rfl, -, rfl⟩ := hv'
    refine W_seq ?_
    refine W_seq ?_
    refine W_region rfl ?_
    refine L_val rfl (x_move (by conv => lhs; whnf)) ?_
    refine L_val rfl (x_move (by conv => lhs; whnf)) ?_
    refine L_nil ?_
    refine W_block ?_
    refine W_loop (fun m f w2 => ∃ i, i ≤ 4 ∧ m = 4 - i ∧ Frm f [(0, ptr br 0), (1, i64 4), (5, u64 (nm bs i)), (17, i64 4), (18, i64 (i : Nat))] ∧ w2 = w1) 4
      ⟨0, by omega, rfl, ⟨rfl, rfl, rfl, rfl, rfl, trivial⟩, rfl⟩ (fun m f w2 hI => ?_)
    obtain ⟨i, hi, rfl, hF, rfl⟩ := hI
    obtain ⟨g, rfl⟩ := hF.eta
    refine W_seq ?_
    refine W_region rfl ?_
    refine L_val rfl (x_lss rfl rfl rfl) ?_
    refine L_nil ?_
    refine W_seq ?_
    by_cases hcond : i < 4
    · refine W_true (congrArg Value.bool (decide_eq_true (by omega))) ?_
      refine W_skip ?_
      refine W_seq ?_
      refine W_block ?_
      refine W_seq ?_
      refine W_region rfl ?_
      refine L_val rfl (x_move (by conv => lhs; whnf)) ?_
      refine L_val rfl (x_assign (by conv => lhs; whnf)) ?_
      refine L_nil ?_
      refine W_region rfl ?_
      refine L_val rfl (x_move (by conv => lhs; whnf)) ?_
      refine L_val rfl (x_shl (c := IntKind.u64.wrap (nm bs i * 2 ^ 8)) rfl rfl (by omega) rfl) ?_
      refine L_val rfl (x_move (by conv => lhs; whnf)) ?_
      refine L_val rfl (x_nilCheck rfl) ?_
      refine L_val rfl (x_field fo_102_0 rfl) ?_
      refine L_val rfl (x_load sc37 rfl (cell_at (v := .slice (some ⟨b, o, none⟩) bs.length cap) hb rfl)) ?_
      refine L_val rfl (x_move (by conv => lhs; whnf)) ?_
      refine L_val rfl (x_index el37 (i := i) rfl rfl (by omega)) ?_
      refine L_val rfl (x_load sc5 rfl (hcell i _ (by omega) (by omega))) ?_
      refine L_val rfl (x_conv kd5 kd73 rfl rfl) ?_
      refine L_val rfl (x_or rfl rfl) ?_
      refine L_val rfl (x_assign (by conv => lhs; whnf)) ?_
      refine L_nil ?_
      refine W_region rfl ?_
      refine L_val rfl (x_add rfl rfl (wr64 (c := ((i + 1 : Nat) : Int)) (by omega) (by omega) (by omega))) ?_
      refine L_val rfl (x_move (by conv => lhs; whnf)) ?_
      refine L_nil ?_
      exact ⟨4 - (i + 1), by omega, i + 1, by omega, rfl, ⟨rfl, rfl, rfl, rfl, rfl, trivial⟩, rfl⟩
    · refine W_false (congrArg Value.bool (decide_eq_false (by omega))) ?_
      refine W_exit ?_
      refine W_seq ?_
      have hi4 : i = 4 := by omega
      subst hi4
      refine W_region rfl ?_
      refine L_val rfl (x_move (by conv => lhs; whnf)) ?_
      refine L_val rfl (x_move (by conv => lhs; whnf)) ?_
      refine L_val rfl (x_nilCheck rfl) ?_
      refine L_val rfl (x_field fo_102_0 rfl) ?_
      refine L_val rfl (x_load sc37 rfl (cell_at (v := .slice (some ⟨b, o, none⟩) bs.length cap) hb rfl)) ?_
      refine L_val rfl (x_move (by conv => lhs; whnf)) ?_
      refine L_val rfl (x_sliceL el37 (l := 4) rfl rfl (by omega)) ?_
      refine L_val rfl (x_nilCheck rfl) ?_
      refine L_val rfl (x_field fo_102_0 rfl) ?_
      refine L_store sz37 rfl rfl (by conv => lhs; whnf) rfl hb (by simp) (fun w3 hb3 hc3 => ?_)
      refine L_nil ?_
      refine W_seq ?_
      refine W_region rfl ?_
      refine L_val rfl (x_move (by conv => lhs; whnf)) ?_
      refine L_val rfl (x_assign (by conv => lhs; whnf)) ?_
      refine L_nil ?_
      refine W_ret ?_
      refine res1 rfl rfl ⟨?_, hc1.same hc3⟩
      rw [if_pos ⟨rfl, h4⟩]
      refine ⟨rfl, _, hb3, ((hB.drop rfl (by omega)).chg hc3 (fun b' hb' hm => ?_)), fun b' hb' => ?_⟩
      · exact hne b' ((ownBlock_baseAt (n' := bs.length) (cap' := cap)).symm.trans hb') (by simpa using hm)
      · exact hne b' ((ownBlock_baseAt (n' := bs.length) (cap' := cap)).symm.trans hb')
  · have hd : (wr || decide ((bs.length : Int) < ((4 : Nat) : Int))) = true := by
      cases wr with
      | true => rfl
      | false => rw [Bool.false_or]; exact decide_eq_true (by simp at hcond; omega)
    refine W_true (congrArg (fun b => Value.bool (!(!b))) hd) ?_
    rw [hd] at hR1
    refine W_seq ?_
    refine W_region rfl ?_
    refine L_val rfl (x_assign (by conv => lhs; whnf)) ?_
    refine L_nil ?_
    refine W_ret ?_
    refine res1 rfl rfl ⟨?_, hc1⟩
    rw [if_neg hcond]
    exact ⟨rfl, hR1⟩

theorem f44_raw {w : World} {br n : Nat} {bs : List Int} {wr : Bool} (hR : Rd w br bs wr) (hlen : bs.length ≤ 549755813888) (hn : n ≤ 549755813888) :
    Calls Try.prog 44 #[ptr br 0, i64 (n : Nat)] w (Rv fun v w' => (if wr = false ∧ n ≤ bs.length then OwnB w w' v (bs.take n) ∧ Rd w' br (bs.drop n) false else v = .slice none 0 0 ∧ Rd w' br bs true) ∧ Chg [br] w w') := by
  have hmx := max_big
  refine calls_W (args := [ptr br 0, i64 (n : Nat)]) Try.func44 rfl Try.ntmps44 rfl ?_
  refine W_seq ?_
  refine W_region rfl ?_
  refine L_val rfl (x_assign (by conv => lhs; whnf)) ?_
  refine L_nil ?_
  refine W_seq ?_
  refine W_seq ?_
  refine W_region rfl ?_
  refine L_val rfl (x_move (by conv => lhs; whnf)) ?_
  refine L_val rfl (x_move (by conv => lhs; whnf)) ?_
  refine L_call rfl (x_call ok57) (f57_right hR hlen hn) (fun v w1 ⟨hv, hR1, _, hc1⟩ => ?_)
  subst hv
  refine L_val rfl (x_not rfl) ?_
  refine L_nil ?_
  by_cases hcond : wr = false ∧ n ≤ bs.length
  · obtain ⟨rfl, h4⟩ := hcond
    have hd : (false || decide ((bs.length : Int) < (n : Int))) = false := by rw [Bool.false_or]; exact decide_eq_false (by omega)
    refine W_false (congrArg (fun b => Value.bool (!(!b))) hd) ?_
    refine W_skip ?_
    rw [hd] at hR1
    obtain ⟨v, hb, hB, hne⟩ := hR1
    obtain ⟨a, cap, rfl⟩ := hB.is
    have hls := hB.lens
    refine W_seq ?_
    refine W_region rfl ?_
    refine L_val rfl (x_move (by conv => lhs; whnf)) ?_
    refine L_val rfl (x_nilCheck rfl) ?_
    refine L_val rfl (x_field fo_102_0 rfl) ?_
    refine L_val rfl (x_load sc37 rfl (cell_at (v := .slice a bs.length cap) hb rfl)) ?_
    refine L_val rfl (x_move (by conv => lhs; whnf)) ?_
    refine L_val rfl (x_sliceH el37 (h := n) rfl rfl (by omega)) ?_
    refine L_append (base := w1.heap.size) (xs := []) (n := 0) (v := .slice none 0 0) e1_37 rfl rfl rfl (World.ownsRow_nil _ _ _ _) (hB.take h4) (b8 _) (by simp; omega) (by simp; omega) (Nat.le_refl _) (fun v' w2 ha => ?_)
    refine L_val rfl (x_assign (v := v') rfl) ?_
    refine L_nil ?_
    have hown := ha.own
    rw [List.nil_append, List.length_map] at hown
    have hc2 : Chg [] w1 w2 := ha.chg
    have hb2 := hc2.at hb (by simp)
    refine W_seq ?_
    refine W_region rfl ?_
    refine L_val rfl (x_move (by conv => lhs; whnf)) ?_
    refine L_val rfl (x_move (by conv => lhs; whnf)) ?_
    refine L_val rfl (x_nilCheck rfl) ?_
    refine L_val rfl (x_field fo_102_0 rfl) ?_
    refine L_val rfl (x_load sc37 rfl (cell_at (v := .slice a bs.length cap) hb2 rfl)) ?_
    refine L_val rfl (x_move (by conv => lhs; whnf)) ?_
    refine L_val rfl (x_sliceL el37 (l := n) rfl rfl (by omega)) ?_
    refine L_val rfl (x_nilCheck rfl) ?_
    refine L_val rfl (x_field fo_102_0 rfl) ?_
    refine L_store sz37 rfl rfl (by conv => lhs; whnf) rfl hb2 (by simp) (fun w3 hb3 hc3 => ?_)
    refine L_nil ?_
    refine W_seq ?_
    refine W_region rfl ?_
    refine L_val rfl (x_move (v := v') rfl) ?_
    refine L_val rfl (x_assign (v := v') rfl) ?_
    refine L_nil ?_
    refine W_ret ?_
    refine res1 (v := v') rfl rfl ⟨?_, (hc1.trans0 hc2).same hc3⟩
    rw [if_pos ⟨rfl, h4⟩]
    have hbl := lt_of_at hb
    have hown1 := own_chg hown hc3 (fun b hb' hm => by have := (hown.lt b hb').1; simp at hm; omega)
    refine ⟨?_, _, hb3, (((hB.drop rfl (by omega)).chg0 hc2).chg hc3 (fun b' hb' hm => ?_)), fun b' hb' => ?_⟩
    · exact own_weak hown1 hc1.size
    · exact hne b' ((ownBlock_baseAt (n' := bs.length) (cap' := cap)).symm.trans hb') (by simpa using hm)
    · exact hne b' ((ownBlock_baseAt (n' := bs.length) (cap' := cap)).symm.trans hb')
  · have hd : (wr || decide ((bs.length : Int) < (n : Int))) = true := by
      cases wr with
      | true => rfl
      | false => rw [Bool.false_or]; exact decide_eq_true (by simp at hcond; omega)
    refine W_true (congrArg (fun b => Value.bool (!(!b))) hd) ?_
    rw [hd] at hR1
    refine W_seq ?_
    refine W_region rfl ?_
    refine L_val rfl (x_assign (by conv => lhs; whnf)) ?_
    refine L_nil ?_
    refine W_ret ?_
    refine res1 rfl rfl ⟨?_, hc1⟩
    rw [if_neg hcond]
    exact ⟨rfl, hR1⟩

theorem f45_equal {w : World} {x y : Value} {xs ys : List Int} (hx : Bt w x xs) (hy : Bt w y ys) :
    Calls Try.prog 45 #[x, y] w (Rv fun v w' => v = .bool (decide (xs = ys)) ∧ Chg [] w w') := by
  obtain ⟨a, cap, rfl⟩ := hx.is
  obtain ⟨a2, cap2, rfl⟩ := hy.is
  have hlx := hx.lens
  have hly := hy.lens
  have hmx : maxLen ≤ 9223372036854775807 := by decide
  refine calls_W (args := [.slice a xs.length cap, .slice a2 ys.length cap2]) Try.func45 rfl Try.ntmps45 rfl ?_
  refine W_seq ?_
  refine W_region rfl ?_
  refine L_val rfl (x_assign (by conv => lhs; whnf)) ?_
  refine L_nil ?_
  refine W_seq ?_
  refine W_seq ?_
  refine W_region rfl ?_
  refine L_val rfl (x_move (by conv => lhs; whnf)) ?_
  refine L_val rfl (x_len el37 rfl) ?_
  refine L_val rfl (x_move (by conv => lhs; whnf)) ?_
  refine L_val rfl (x_len el37 rfl) ?_
  refine L_val rfl (x_neq rfl rfl rfl) ?_
  refine L_nil ?_
  by_cases hcond : xs.length ≠ ys.length
  · refine W_true (congrArg (fun x => Value.bool !x) (decide_eq_false (by omega))) ?_
    refine W_seq ?_
    refine W_region rfl ?_
    refine L_val rfl (x_assign (by conv => lhs; whnf)) ?_
    refine L_nil ?_
    refine W_ret ?_
    refine res1 rfl rfl ⟨?_, Chg.refl _ _⟩
    exact congrArg Value.bool (decide_eq_false (fun h => hcond (by rw [h]))).symm
  · refine W_false (congrArg (fun x => Value.bool !x) (decide_eq_true (by omega))) ?_
    refine W_skip ?_
    refine W_seq ?_
    refine W_seq ?_
    refine W_region rfl ?_
    refine L_val rfl (x_move (by conv => lhs; whnf)) ?_
    refine L_val rfl (x_len el37 rfl) ?_
    refine L_val rfl (x_move (by conv => lhs; whnf)) ?_
    refine L_nil ?_
    refine W_block ?_
    refine W_loop (fun m f w1 => ∃ i, i ≤ xs.length ∧ m = xs.length - i ∧ Frm f [(0, .slice a xs.length cap), (1, .slice a2 ys.length cap2), (12, i64 (xs.length : Nat)), (13, i64 (i : Nat))] ∧ (∀ j, j < i → at' xs j = at' ys j) ∧ Chg [] w w1) xs.length
      ⟨0, by omega, rfl, ⟨rfl, rfl, rfl, rfl, trivial⟩, by omega, Chg.refl _ _⟩ (fun m f w1 hI => ?_)
    obtain ⟨i, hi, rfl, hF, hsame, hc1⟩ := hI
    obtain ⟨g, rfl⟩ := hF.eta
    refine W_seq ?_
    refine W_region rfl ?_
    refine L_val rfl (x_lss rfl rfl rfl) ?_
    refine L_nil ?_
    refine W_seq ?_
    by_cases hcond : i < xs.length
    · refine W_true (congrArg Value.bool (decide_eq_true (by omega))) ?_
      refine W_skip ?_
      refine W_seq ?_
      refine W_block ?_
      refine W_seq ?_
      refine W_region rfl ?_
      refine L_val rfl (x_move (by conv => lhs; whnf)) ?_
      refine L_val rfl (x_assign (by conv => lhs; whnf)) ?_
      refine L_nil ?_
      refine W_seq ?_
      obtain ⟨b, o, cap', hv', _, _, hcx⟩ := (hx.chg0 hc1).some (by omega)
      simp only [Value.slice.injEq] at hv'
      obtain ⟨rfl, -, rfl⟩ := hv'
      obtain ⟨b2, o2, cap2', hv', _, _, hcy⟩ := (hy.chg0 hc1).some (by omega)
      simp only [Value.slice.injEq] at hv'
      obtain ⟨rfl, -, rfl⟩ := hv'
      refine W_still mixed (by kernel_rfl) rfl ?_
      refine L_val rfl (x_move (by conv => lhs; whnf)) ?_
      refine L_val rfl (x_move (by conv => lhs; whnf)) ?_
      refine L_val rfl (x_index el37 (i := i) rfl rfl (by omega)) ?_
      refine L_val rfl (x_load sc5 rfl (hcx i _ (by omega) (by omega))) ?_
      refine L_val rfl (x_move (by conv => lhs; whnf)) ?_
      refine L_val rfl (x_move (by conv => lhs; whnf)) ?_
      refine L_val rfl (x_index el37 (i := i) rfl rfl (by omega)) ?_
      refine L_val rfl (x_load sc5 rfl (hcy i _ (by omega) (by omega))) ?_
      refine L_val rfl (x_neq rfl rfl rfl) ?_
      refine L_nil ?_
      by_cases hcond2 : at' xs i ≠ at' ys i
      · refine W_true (congrArg (fun x => Value.bool !x) (decide_eq_false hcond2)) ?_
        refine W_seq ?_
        refine W_region rfl ?_
        refine L_val rfl (x_assign (by conv => lhs; whnf)) ?_
        refine L_nil ?_
        refine W_ret ?_
        refine res1 rfl rfl ⟨?_, hc1.d⟩
        exact congrArg Value.bool (decide_eq_false (fun h => hcond2 (by rw [h]))).symm
      · refine W_false (congrArg (fun x => Value.bool !x) (decide_eq_true (Decidable.not_not.1 hcond2))) ?_
        refine W_skip ?_
        refine W_region rfl ?_
        refine L_val rfl (x_add rfl rfl (wr64 (c := ((i + 1 : Nat) : Int)) (by omega) (by omega) (by omega))) ?_
        refine L_val rfl (x_move (by conv => lhs; whnf)) ?_
        refine L_nil ?_
        refine ⟨xs.length - (i + 1), by omega, i + 1, by omega, rfl, ⟨rfl, rfl, rfl, rfl, trivial⟩, fun j hj => ?_, hc1.d⟩
        by_cases e : j = i
        · subst e; exact Decidable.not_not.1 hcond2
        · exact hsame j (by omega)
    · refine W_false (congrArg Value.bool (decide_eq_false (by omega))) ?_
      refine W_exit ?_
      refine W_seq ?_
      refine W_region rfl ?_
      refine L_val rfl (x_assign (by conv => lhs; whnf)) ?_
      refine L_nil ?_
      refine W_ret ?_
      refine res1 rfl rfl ⟨?_, hc1⟩
      refine congrArg Value.bool (decide_eq_true ?_).symm
      refine List.ext_getElem (by omega) (fun j h1 h2 => ?_)
      have := hsame j (by omega)
      simpa [at', h1, h2] using this

theorem f22_sectors {w : World} {x : Value} {ys : List Int} (hx : Bt w x ys) (hlen : ys.length ≤ 549755813888) :
    Calls Try.prog 22 #[x] w (fun e w' => e = .returned (i64 (((ys.length + 75) / 64 : Nat) : Int)) ∧ w' = w) := by
  obtain ⟨a, cap, rfl⟩ := hx.is
  refine (calls_W (args := [.slice a ys.length cap]) (R := fun v w' => v = i64 (((ys.length + 75) / 64 : Nat) : Int) ∧ w' = w) Try.func22 rfl Try.ntmps22 rfl ?_).mono (fun e w' ⟨v, he, hv, hw⟩ => ⟨hv ▸ he, hw⟩)
  refine W_seq ?_
  refine W_region rfl ?_
  refine L_val rfl (x_assign (by conv => lhs; whnf)) ?_
  refine L_nil ?_
  refine W_seq ?_
  refine W_region rfl ?_
  refine L_val rfl (x_move (by conv => lhs; whnf)) ?_
  refine L_val rfl (x_len el37 rfl) ?_
  refine L_val rfl (x_add rfl rfl (wr64 (c := ((12 + ys.length : Nat) : Int)) (by omega) (by omega) (by omega))) ?_
  refine L_val rfl (x_add rfl rfl (wr64 (c := ((12 + ys.length + 64 : Nat) : Int)) (by omega) (by omega) (by omega))) ?_
  refine L_val rfl (x_sub rfl rfl (wr64 (c := ((ys.length + 75 : Nat) : Int)) (by omega) (by omega) (by omega))) ?_
  refine L_val rfl (x_quo rfl rfl (by decide) (quo64 (c := (((ys.length + 75) / 64 : Nat) : Int)) (by omega) (by omega) (by omega) (by omega))) ?_
  refine L_val rfl (x_assign (by conv => lhs; whnf)) ?_
  refine L_nil ?_
  refine W_ret ?_
  exact res1 rfl rfl ⟨rfl, rfl⟩

/-! ### The sum of a record -/
def RECO : List Int := [82, 69, 67, 79]
def sumB (ys : List Int) (k : Int) : List Int := (sha (RECO ++ nb k 4 ++ ys)).take 8

theorem run_buildSliceN {P : Program} {w : World} {t e : TypeId} {z : Value} {by' n : Nat} {vs : Array (Nat × Value)} {cells : Array Value} (he : elem1 P t = some (e, z, by')) (hn : n ≤ 16777216) (h0 : n ≠ 0)
    (hf : Instr.fill (fun i => some (i * 1, 1)) ((Array.range (n * 1)).map (z.cells[· % z.cells.size]!)) vs.toList = some cells) : (Instr.buildSlice t n vs).run P w = .ok (.slice (some ⟨w.heap.size, 0, none⟩) n n) (w.alloc (.cells cells e)) := by
  obtain ⟨hu, i, hi, hz, hsz, hby, hzs⟩ := elem1_spec he
  have hn' : ¬ 16777216 < n := by omega
  simp only [Nat.mul_one] at hf
  simp [Instr.buildSlice, run_underlying hu, sizeOf, typeInfo, hi, hsz, zeroValue, hz, newRow, hn', h0, hf]

theorem x_convR {P : Program} {f : Fr} {w w' : World} {dst : Option Tmp} {ps : String} {af : Array Edge} {gd : Option (Nat × Bool)} {ty s d : TypeId} {x : Operand} {v u : Value} (hx : ev f x = u) (h : (convert s d u).run P w = .ok v w') :
    (execOp (ev f) ⟨dst, .convert s d x, ty, ps, af, gd⟩).run P w = .ok (.value v) w' := by
  subst hx
  simp only [execOp, Sem.run_bind, h, Result.andThen_ok, Sem.run_pure]

theorem f35_sum {w : World} {x : Value} {ys : List Int} {k : Nat} (hx : Bt w x ys) (hlen : ys.length ≤ 68719476736) (hk : k ≤ 68719476736) :
    Calls Try.prog 35 #[x, i64 (k : Nat)] w (Rv fun v w' => Bt w' v (sumB ys k) ∧ (∀ b, v.ownBlock = some b → w.heap.size ≤ b ∧ b < w'.heap.size) ∧ Chg [] w w') := by
  refine calls_W (args := [x, i64 (k : Nat)]) Try.func35 rfl Try.ntmps35 rfl ?_
  refine W_seq ?_
  refine W_region rfl ?_
  refine L_val rfl (x_assign (by conv => lhs; whnf)) ?_
  refine L_nil ?_
  refine W_seq ?_
  refine W_region rfl ?_
  refine L_alloc zero71 rfl (fun w1 hb1 hc1 hs1 => ?_)
  refine L_nil ?_
  have hW1 : Wr w1 w.heap.size w.heap.size [] := ⟨Nat.le_refl _, _, hb1, World.ownsRow_nil _ _ _ _⟩
  refine W_seq ?_
  refine W_region rfl ?_
  refine L_new rfl (x_buildSlice rfl (run_buildSliceN (cells := L8 RECO) e1_37 (by decide) (by decide) (by kernel_rfl))) ?_
  refine L_new rfl (x_convR rfl (Lib.run_convert_bytes_const w1 37 5 (L8 RECO) 4 4 (elemOfT_spec el37).1 (kindOf_spec kd5))) ?_
  generalize hw2 : w1.alloc (.cells (L8 RECO) 5 ((L8 RECO).size, (L8 RECO).size + 1)) = w2
  have hb2 : w2.heap[w1.heap.size]? = some (.cells (L8 RECO) 5 ((L8 RECO).size, (L8 RECO).size + 1)) := by subst hw2; exact heap_alloc_new _ _
  have hc2 : Chg [] w1 w2 := by subst hw2; exact Chg.alloc _ _ _
  have hs2 : w2.heap.size = w1.heap.size + 1 := by subst hw2; simp
  have hW2 := hW1.chg hc2 (by simp)
  have hB2 : Bt w2 (.slice (some ⟨w1.heap.size, 0, none⟩) 4 4) RECO := L8_bytes hb2 (by decide) rfl
  refine L_call rfl (x_call ok34) (f34_raw hW2 hB2 (by omega) (by decide)) (fun v w3 ⟨hW3, hu3⟩ => ?_)
  refine L_nil ?_
  refine W_seq ?_
  refine W_region rfl ?_
  refine L_val rfl (x_move (by conv => lhs; whnf)) ?_
  refine L_val rfl (x_conv kd3 kd73 rfl (wru64 (c := (k : Int)) (by omega) (by omega) (by omega))) ?_
  refine L_call rfl (x_call ok33) (f33_num hW3 (by have := hu3.size; omega) (by decide)) (fun v w4 ⟨hW4, hu4⟩ => ?_)
  refine L_nil ?_
  have h04 : Chg [] w w4 := ((hc1.same hc2).base' hu3).base' hu4
  refine W_seq ?_
  refine W_region rfl ?_
  refine L_val rfl (x_move (v := x) rfl) ?_
  refine L_call rfl (x_call ok34) (f34_raw hW4 (hx.chg0 h04) h04.size (by simp [nb_len, RECO]; omega)) (fun v w5 ⟨hW5, hu5⟩ => ?_)
  refine L_nil ?_
  have h05 := h04.base' hu5
  refine W_seq ?_
  refine W_region rfl ?_
  refine L_call rfl (x_call ok37) (f37_bytes hW5 (by simp [nb_len, RECO]; omega)) (fun v6 w6 ⟨ho6, hc6⟩ => ?_)
  refine L_call rfl (x_call ok51) (f51_sum ho6.bt (by simp [nb_len, RECO]; omega) (fun b hb => (ho6.lt b hb).2)) (fun v7 w7 ⟨hv7, hc7⟩ => ?_)
  subst hv7
  refine L_alloc zero93 rfl (fun w8 hb8 hc8 hs8 => ?_)
  refine L_storeAll sz93 rfl rfl rfl (by rw [L8_size, sha_len]) (L8_one _) hb8 rfl (fun w9 hb9 hc9 => ?_)
  refine L_nil ?_
  refine W_seq ?_
  refine W_region rfl ?_
  refine L_val rfl (x_sliceArrH ar93 (h := 8) rfl rfl (by decide)) ?_
  refine L_val rfl (x_assign (by conv => lhs; whnf)) ?_
  refine L_nil ?_
  refine W_ret ?_
  have h07 := (h05.same hc6).same hc7
  refine res1 rfl rfl ⟨?_, fun b hb => ?_, (h07.same hc8).trans hc9 (by have := h07.size; simp; omega)⟩
  · have := L8_bytes hb9 (by rw [sha_len]; decide) (sha_len _)
    have := this.take (l := 8) (by decide)
    exact this
  · have hb' : (Value.slice (some ⟨w7.heap.size, 0, none⟩) 8 32).ownBlock = some b := hb
    simp [Value.ownBlock] at hb'
    have := h07.size
    have := lt_of_at hb9
    omega

end Go.Proofs.Ytinoebjhcmeppaa
