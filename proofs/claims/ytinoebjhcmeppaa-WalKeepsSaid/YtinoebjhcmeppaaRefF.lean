/- The walks of the document's 'bytes' of its disk, and of its Crash. -/
import Derived.Test.YtinoebjhcmeppaaRefE
namespace Go.Proofs.Ytinoebjhcmeppaa
open E Sha
set_option maxRecDepth 100000
set_option maxHeartbeats 4000000

theorem own_bk {w : World} {base n : Nat} {v : Value} {xs : List Value} (h : w.ownsRow base 5 1 v n xs) {b : Nat} (hb : v.ownBlock = some b) : Bk w b := by
  rcases h.2 with ⟨rfl, _⟩ | ⟨g, cap, cur, rfl, _, hg, _⟩
  · simp [Value.ownBlock] at hb
  · simp [Value.ownBlock] at hb
    subst hb
    exact ⟨cur, 5, (0, 0), hg, .inl rfl⟩
theorem Recs.low {w w' : World} {base : Nat} {U : List Nat} (hc : Chg U w w') (hU : ∀ k ∈ U, k < base) : ∀ {vs : List Value} {xs : List (List Int)}, Recs w base vs xs → Recs w' base vs xs
  | [], [], _ => trivial
  | v :: vs, x :: xs, h => ⟨⟨h.1.1.chg hc (fun b hb hm => by have := hU b hm; have := (h.1.2 b hb).1; omega), fun b hb => ⟨(h.1.2 b hb).1, (h.1.2 b hb).2.chg hc (fun hm => by have := hU b hm; have := (h.1.2 b hb).1; omega)⟩⟩, Recs.low hc hU h.2⟩
  | [], _ :: _, h => h.elim
  | _ :: _, [], h => h.elim
section
variable {w : World} {bx br n : Nat} {Is Was : Nat → List Int} {Dt : Nat → Bool}
theorem f29_bytes (h : Xd w bx br n Is Was Dt) (hn : n ≤ 4096) {at0 m : Nat} (hat : at0 ≤ n) (hm : m ≤ 1099511627776) :
    Calls Try.prog 29 #[ptr bx 0, i64 (at0 : Nat), i64 (m : Nat)] w (Rv fun v w' => Chg [] w w' ∧
      if m ≤ (n - at0) * 64 then ∃ a cap, v = .slice a m cap ∧ Bt w' v ((flat Is at0 ((m + 63) / 64)).take m) ∧ ∀ b, v.ownBlock = some b → w.heap.size ≤ b ∧ Bk w' b
      else v = .slice none 0 0) := by
  have hmx := max_big
  have hlt := h.lt
  refine calls_W (args := [ptr bx 0, i64 (at0 : Nat), i64 (m : Nat)]) Try.func29 rfl Try.ntmps29 rfl ?_
  refine W_seq ?_
  refine W_region rfl ?_
  refine L_val rfl (x_assign (by conv => lhs; whnf)) ?_
  refine L_nil ?_
  refine W_seq ?_
  refine W_seq ?_
  refine W_region rfl ?_
  refine L_val rfl (x_move (by conv => lhs; whnf)) ?_
  refine L_val rfl (x_move (by conv => lhs; whnf)) ?_
  refine L_val rfl (x_nilCheck rfl) ?_
  refine L_val rfl (x_field fo_60_0 rfl) ?_
  refine L_val rfl (x_load sc58 rfl (cell_at (v := .slice (some ⟨br, 0, none⟩) n n) h.desc rfl)) ?_
  refine L_val rfl (x_len el58 rfl) ?_
  refine L_val rfl (x_move (by conv => lhs; whnf)) ?_
  refine L_val rfl (x_sub rfl rfl (wr64 (c := ((n - at0 : Nat) : Int)) (by omega) (by omega) (by omega))) ?_
  refine L_val rfl (x_mul rfl rfl (wr64 (c := (((n - at0) * 64 : Nat) : Int)) (by omega) (by omega) (by omega))) ?_
  refine L_val rfl (x_gtr rfl rfl rfl) ?_
  refine L_nil ?_
  by_cases hfit : m ≤ (n - at0) * 64
  · refine W_false (congrArg Value.bool (decide_eq_false (by omega))) ?_
    refine W_skip ?_
    refine W_seq ?_
    refine W_region rfl ?_
    refine L_val rfl (x_assign (by conv => lhs; whnf)) ?_
    refine L_nil ?_
    refine W_seq ?_
    refine W_block ?_
    refine W_loop (fun mm f w1 => ∃ i v, at0 + i ≤ n ∧ (i = 0 ∨ 64 * (i - 1) < m) ∧ mm = n - at0 - i ∧ Frm f [(0, ptr bx 0), (1, i64 ((at0 + i : Nat) : Int)), (2, i64 (m : Nat)), (7, v)] ∧ OwnB w w1 v (flat Is at0 i) ∧ Chg [] w w1) (n - at0)
      ⟨0, .slice none 0 0, by omega, .inl rfl, rfl, ⟨rfl, rfl, rfl, rfl, trivial⟩, World.ownsRow_nil _ _ _ _, Chg.refl _ _⟩ (fun mm f w1 hI => ?_)
    obtain ⟨i, v, hi, hi2, rfl, hF, ho, hc1⟩ := hI
    obtain ⟨g, rfl⟩ := hF.eta
    have hfl := flat_len (n := n) h.lenI at0 i hi
    obtain ⟨a, cap, rfl⟩ := own_slice ho
    refine W_seq ?_
    refine W_seq ?_
    refine W_region rfl ?_
    refine L_val rfl (x_move (by conv => lhs; whnf)) ?_
    refine L_val rfl (x_len el37 rfl) ?_
    refine L_val rfl (x_move (by conv => lhs; whnf)) ?_
    refine L_val rfl (x_lss rfl rfl rfl) ?_
    refine L_nil ?_
    by_cases hcond : 64 * i < m
    · refine W_true (congrArg Value.bool (decide_eq_true (by omega))) ?_
      refine W_skip ?_
      refine W_seq ?_
      refine W_block ?_
      have hR := h.chg0 hc1
      have hat1 : at0 + i < n := by omega
      refine W_region rfl ?_
      refine L_val rfl (x_move (by conv => lhs; whnf)) ?_
      refine L_val rfl (x_move (by conv => lhs; whnf)) ?_
      refine L_val rfl (x_nilCheck rfl) ?_
      refine L_val rfl (x_field fo_60_0 rfl) ?_
      refine L_val rfl (x_load sc58 rfl (cell_at (v := .slice (some ⟨br, 0, none⟩) n n) hR.desc rfl)) ?_
      refine L_val rfl (x_move (by conv => lhs; whnf)) ?_
      refine L_val rfl (x_index el58 (i := at0 + i) rfl rfl hat1) ?_
      refine L_val rfl (x_field fo_69_0 rfl) ?_
      refine L_val rfl (x_sliceArr ar67 rfl) ?_
      have hbt : Bt w1 (.slice (some ⟨br, 0 + (at0 + i) * 129 + 0, none⟩) 64 64) (Is (at0 + i)) := by rw [show 0 + (at0 + i) * 129 + 0 = 129 * (at0 + i) by omega]; exact hR.bt hat1
      have hIl := h.lenI _ hat1
      refine L_append e1_37 rfl rfl rfl ho hbt (fun u hu => by simp only [List.mem_map] at hu; obtain ⟨z, _, rfl⟩ := hu; rfl) (by simp only [List.length_map]; omega) (by simp only [List.length_map]; omega) hc1.size (fun v3 w3 ha => ?_)
      refine L_val rfl (x_assign (v := v3) rfl) ?_
      refine L_nil ?_
      refine W_region rfl ?_
      refine L_val rfl (x_move (by conv => lhs; whnf)) ?_
      refine L_val rfl (x_add rfl rfl (wr64 (c := ((at0 + (i + 1) : Nat) : Int)) (by omega) (by omega) (by omega))) ?_
      refine L_val rfl (x_assign (by conv => lhs; whnf)) ?_
      refine L_nil ?_
      have ho3 := ha.own
      rw [← List.map_append, ← flat_succ, List.length_map] at ho3
      exact ⟨n - at0 - (i + 1), by omega, i + 1, v3, by omega, .inr (by omega), rfl, ⟨rfl, rfl, rfl, rfl, trivial⟩, ho3, hc1.out ha.chg (fun k hk => own_new ho k hk)⟩
    · refine W_false (congrArg Value.bool (decide_eq_false (by omega))) ?_
      refine W_exit ?_
      have hk : (m + 63) / 64 = i := by omega
      have hl := ho.bt.lens
      refine W_seq ?_
      refine W_region rfl ?_
      refine L_val rfl (x_move (by conv => lhs; whnf)) ?_
      refine L_val rfl (x_move (by conv => lhs; whnf)) ?_
      refine L_val rfl (x_sliceH el37 (h := m) rfl rfl (by omega)) ?_
      refine L_val rfl (x_assign (by conv => lhs; whnf)) ?_
      refine L_nil ?_
      refine W_ret ?_
      refine res1 rfl rfl ⟨hc1, ?_⟩
      rw [if_pos hfit, hk]
      refine ⟨_, _, rfl, ho.bt.take (l := m) (by omega), fun b hb => ?_⟩
      have hb2 : (Value.slice (baseAt a cap 0 1) m cap).ownBlock = some b := hb
      rw [ownBlock_baseAt (n' := (flat Is at0 i).length) (cap' := cap)] at hb2
      exact ⟨(ho.lt b hb2).1, own_bk ho hb2⟩
  · refine W_true (congrArg Value.bool (decide_eq_true (by omega))) ?_
    refine W_seq ?_
    refine W_region rfl ?_
    refine L_val rfl (x_assign (by conv => lhs; whnf)) ?_
    refine L_nil ?_
    refine W_ret ?_
    exact res1 (v := .slice none 0 0) rfl rfl ⟨Chg.refl _ _, by rw [if_neg hfit]⟩

/-- A sector of the document's disk behind a crash. -/
def crI (Is Was : Nat → List Int) (Dt : Nat → Bool) (keep : List Int) (torn m : Int) (i : Nat) : List Int :=
  if Dt i = true ∧ ¬ (i : Int) ∈ keep then (if (i : Int) = torn then (Is i).take (tornN m) ++ (Was i).drop (tornN m) else Was i) else Is i
theorem mem_take_succ {keep : List Int} {j : Nat} (hj : j < keep.length) (x : Int) : x ∈ keep.take (j + 1) ↔ x ∈ keep.take j ∨ at' keep j = x := by
  rw [List.take_add_one, List.getElem?_eq_getElem hj]
  simp only [Option.toList_some, List.mem_append, List.mem_singleton, at', List.getD_eq_getElem?_getD, List.getElem?_eq_getElem hj, Option.getD_some]
  exact ⟨fun h => h.imp id Eq.symm, fun h => h.imp id Eq.symm⟩
theorem f15_crash (h : Xd w bx br n Is Was Dt) (hn : n ≤ 4096) {kv : Value} {keep : List Int} (hk : Rw w kv (keep.map i64)) (hkb : keep ≠ [] → ∀ b, kv.ownBlock = some b → b ≠ br) (torn m : Int) :
    Calls Try.prog 15 #[ptr bx 0, kv, i64 torn, i64 m] w (Rv fun _ w' => Xd w' bx br n (crI Is Was Dt keep torn m) (crI Is Was Dt keep torn m) (fun _ => false) ∧ Chg [br] w w') := by
  have hne := h.ne
  have hlt := h.lt
  have hmx2 : maxLen ≤ 9223372036854775807 := by decide
  obtain ⟨ak, capk, rfl⟩ := hk.is
  have hkl := hk.lens
  have htn64 : tornN m ≤ 64 := by unfold tornN; omega
  have hmm : (if (if (64 : Int) < m then 64 else m) > (0 : Int) then (if (64 : Int) < m then 64 else m) else 0) = ((tornN m : Nat) : Int) := by
    unfold tornN
    by_cases e2 : (64 : Int) < m
    · rw [if_pos e2, if_pos (by omega)]; omega
    · rw [if_neg e2]
      by_cases e1 : m > (0 : Int)
      · rw [if_pos e1]; omega
      · rw [if_neg e1]; omega
  refine calls_W (args := [ptr bx 0, .slice ak keep.length capk, i64 torn, i64 m]) Try.func15 rfl Try.ntmps15 rfl ?_
  refine W_seq ?_
  refine W_region rfl ?_
  refine L_val rfl (x_move (by conv => lhs; whnf)) ?_
  refine L_val rfl (x_min rfl rfl) ?_
  refine L_val (v := i64 (tornN m : Nat)) rfl (by rw [← hmm]; exact x_max rfl rfl) ?_
  refine L_val rfl (x_assign (by conv => lhs; whnf)) ?_
  refine L_nil ?_
  refine W_seq ?_
  refine W_seq ?_
  refine W_region rfl ?_
  refine L_val rfl (x_assign (by conv => lhs; whnf)) ?_
  refine L_nil ?_
  refine W_block ?_
  refine W_loop (fun mm f w1 => ∃ i, i ≤ n ∧ mm = n - i ∧ Frm f [(0, ptr bx 0), (1, .slice ak keep.length capk), (2, i64 torn), (8, i64 (tornN m : Nat)), (9, i64 (i : Nat))] ∧ Xd w1 bx br n (fun k => if k < i then crI Is Was Dt keep torn m k else Is k) Was Dt ∧ Chg [br] w w1) n
    ⟨0, by omega, rfl, ⟨rfl, rfl, rfl, rfl, rfl, trivial⟩, h.same (fun k _ => (if_neg (by omega)).symm) (fun _ _ => rfl) (fun _ _ => rfl), Chg.refl _ _⟩ (fun mm f w1 hI => ?_)
  obtain ⟨i, hi, rfl, hF, hR, hc1⟩ := hI
  obtain ⟨g, rfl⟩ := hF.eta
  refine W_seq ?_
  refine W_seq ?_
  refine W_region rfl ?_
  refine L_val rfl (x_move (by conv => lhs; whnf)) ?_
  refine L_val rfl (x_move (by conv => lhs; whnf)) ?_
  refine L_val rfl (x_nilCheck rfl) ?_
  refine L_val rfl (x_field fo_60_0 rfl) ?_
  refine L_val rfl (x_load sc58 rfl (cell_at (v := .slice (some ⟨br, 0, none⟩) n n) hR.desc rfl)) ?_
  refine L_val rfl (x_len el58 rfl) ?_
  refine L_val rfl (x_lss rfl rfl rfl) ?_
  refine L_nil ?_
  by_cases hcond : i < n
  · refine W_true (congrArg Value.bool (decide_eq_true (by omega))) ?_
    refine W_skip ?_
    refine W_seq ?_
    refine W_block ?_
    refine W_seq ?_
    have hIi : (if i < i then crI Is Was Dt keep torn m i else Is i) = Is i := if_neg (Nat.lt_irrefl i)
    refine W_region rfl ?_
    refine L_val rfl (x_move (by conv => lhs; whnf)) ?_
    refine L_val rfl (x_nilCheck rfl) ?_
    refine L_val rfl (x_field fo_60_0 rfl) ?_
    refine L_val rfl (x_load sc58 rfl (cell_at (v := .slice (some ⟨br, 0, none⟩) n n) hR.desc rfl)) ?_
    refine L_val rfl (x_move (by conv => lhs; whnf)) ?_
    refine L_val rfl (x_index el58 (i := i) rfl rfl hcond) ?_
    refine L_val rfl (x_field fo_69_2 rfl) ?_
    refine L_val rfl (x_load sc4 rfl (by rw [show 0 + i * 129 + 128 = 129 * i + 128 by omega]; exact hR.cellD hcond)) ?_
    refine L_val rfl (x_not rfl) ?_
    refine L_val rfl (x_assign (by conv => lhs; whnf)) ?_
    refine L_nil ?_
    refine W_seq ?_
    refine W_seq ?_
    refine W_region rfl ?_
    refine L_val rfl (x_assign (by conv => lhs; whnf)) ?_
    refine L_nil ?_
    refine W_block ?_
    refine W_loop (fun mm f w2 => ∃ j b, j ≤ keep.length ∧ mm = keep.length - j ∧ Frm f [(0, ptr bx 0), (1, .slice ak keep.length capk), (2, i64 torn), (8, i64 (tornN m : Nat)), (9, i64 (i : Nat)), (10, .bool b), (11, i64 (j : Nat))] ∧ (b = true ↔ (Dt i = false ∨ (i : Int) ∈ keep.take j)) ∧ w2 = w1) keep.length
      ⟨0, !(Dt i), by omega, rfl, ⟨rfl, rfl, rfl, rfl, rfl, rfl, rfl, trivial⟩, by simp, rfl⟩ (fun mm f w2 hI => ?_)
    obtain ⟨j, b, hj, rfl, hF, hb, rfl⟩ := hI
    obtain ⟨g, rfl⟩ := hF.eta
    refine W_seq ?_
    refine W_seq ?_
    refine W_region rfl ?_
    refine L_val rfl (x_move (by conv => lhs; whnf)) ?_
    refine L_val rfl (x_move (by conv => lhs; whnf)) ?_
    refine L_val rfl (x_len el23 rfl) ?_
    refine L_val rfl (x_lss rfl rfl rfl) ?_
    refine L_nil ?_
    by_cases hcj : j < keep.length
    · refine W_true (congrArg Value.bool (decide_eq_true (by omega))) ?_
      refine W_skip ?_
      refine W_seq ?_
      refine W_block ?_
      cases b with
      | true =>
        refine W_region rfl ?_
        refine L_val rfl (x_move (by conv => lhs; whnf)) ?_
        refine L_val rfl (x_move (by conv => lhs; whnf)) ?_
        refine L_no rfl ?_
        refine L_no rfl ?_
        refine L_no rfl ?_
        refine L_no rfl ?_
        refine L_no rfl ?_
        refine L_no rfl ?_
        refine L_val rfl (x_pick_t rfl (by conv => lhs; whnf)) ?_
        refine L_val rfl (x_assign (by conv => lhs; whnf)) ?_
        refine L_nil ?_
        refine W_region rfl ?_
        refine L_val rfl (x_move (by conv => lhs; whnf)) ?_
        refine L_val rfl (x_add rfl rfl (wr64 (c := ((j + 1 : Nat) : Int)) (by omega) (by omega) (by omega))) ?_
        refine L_val rfl (x_assign (by conv => lhs; whnf)) ?_
        refine L_nil ?_
        exact ⟨keep.length - (j + 1), by omega, j + 1, true, by omega, rfl, ⟨rfl, rfl, rfl, rfl, rfl, rfl, rfl, trivial⟩, ⟨fun _ => (hb.1 rfl).imp id (fun hh => (mem_take_succ hcj _).2 (.inl hh)), fun _ => rfl⟩, rfl⟩
      | false =>
        obtain ⟨bk, ok, capk', hv', _, _, hcell⟩ := (rw_chgE hk hc1 (fun hne b hb hm => hkb (fun e => hne (by rw [e]; rfl)) b hb (by simpa using hm))).some (by omega)
        simp only [Value.slice.injEq] at hv'
        obtain ⟨rfl, -, rfl⟩ := hv'
        refine W_region rfl ?_
        refine L_val rfl (x_move (by conv => lhs; whnf)) ?_
        refine L_val rfl (x_move (by conv => lhs; whnf)) ?_
        refine L_val rfl (x_move (by conv => lhs; whnf)) ?_
        refine L_val rfl (x_move (by conv => lhs; whnf)) ?_
        refine L_val rfl (x_index el23 (i := j) rfl rfl (by omega)) ?_
        refine L_val rfl (x_load sc3 rfl (hcell j _ (by omega) (by omega))) ?_
        refine L_val rfl (x_move (by conv => lhs; whnf)) ?_
        refine L_val rfl (x_eql rfl rfl rfl) ?_
        refine L_val rfl (x_pick_f rfl (by conv => lhs; whnf)) ?_
        refine L_val rfl (x_assign (by conv => lhs; whnf)) ?_
        refine L_nil ?_
        refine W_region rfl ?_
        refine L_val rfl (x_move (by conv => lhs; whnf)) ?_
        refine L_val rfl (x_add rfl rfl (wr64 (c := ((j + 1 : Nat) : Int)) (by omega) (by omega) (by omega))) ?_
        refine L_val rfl (x_assign (by conv => lhs; whnf)) ?_
        refine L_nil ?_
        refine ⟨keep.length - (j + 1), by omega, j + 1, decide (at' keep j = (i : Int)), by omega, rfl, ⟨rfl, rfl, rfl, rfl, rfl, rfl, rfl, trivial⟩, ?_, rfl⟩
        rw [mem_take_succ hcj, decide_eq_true_iff, ← or_assoc, ← hb]
        simp
    · refine W_false (congrArg Value.bool (decide_eq_false (by omega))) ?_
      refine W_exit ?_
      have hjk : j = keep.length := by omega
      subst hjk
      rw [List.take_length] at hb
      refine W_seq ?_
      refine W_region rfl ?_
      refine L_val rfl (x_move (by conv => lhs; whnf)) ?_
      refine L_val rfl (x_not rfl) ?_
      refine L_nil ?_
      cases b with
      | true =>
        refine W_false rfl ?_
        refine W_skip ?_
        refine W_region rfl ?_
        refine L_val rfl (x_move (by conv => lhs; whnf)) ?_
        refine L_val rfl (x_add rfl rfl (wr64 (c := ((i + 1 : Nat) : Int)) (by omega) (by omega) (by omega))) ?_
        refine L_val rfl (x_assign (by conv => lhs; whnf)) ?_
        refine L_nil ?_
        refine ⟨n - (i + 1), by omega, i + 1, by omega, rfl, ⟨rfl, rfl, rfl, rfl, rfl, trivial⟩, hR.same (fun k _ => ?_) (fun _ _ => rfl) (fun _ _ => rfl), hc1⟩
        by_cases e : k = i
        · subst e; rw [if_neg (Nat.lt_irrefl k), if_pos (by omega)]
          unfold crI
          rw [if_neg (fun hh => by have := hb.1 rfl; simp [hh.1, hh.2] at this)]
        · by_cases e2 : k < i
          · rw [if_pos e2, if_pos (by omega)]
          · rw [if_neg e2, if_neg (by omega)]
      | false =>
        have hcr : Dt i = true ∧ ¬ (i : Int) ∈ keep := by
          have hb2 : ¬ (Dt i = false ∨ (i : Int) ∈ keep) := fun hh => by have := hb.2 hh; simp at this
          exact ⟨by cases hd : Dt i with
            | true => rfl
            | false => exact absurd (.inl hd) hb2, fun hh => hb2 (.inr hh)⟩
        have hWl := hR.lenW i hcond
        have hIl := h.lenI i hcond
        refine W_true rfl ?_
        refine W_seq ?_
        refine W_region rfl ?_
        refine L_val rfl (x_move (by conv => lhs; whnf)) ?_
        refine L_val rfl (x_nilCheck rfl) ?_
        refine L_val rfl (x_field fo_60_0 rfl) ?_
        refine L_val rfl (x_load sc58 rfl (cell_at (v := .slice (some ⟨br, 0, none⟩) n n) hR.desc rfl)) ?_
        refine L_val rfl (x_move (by conv => lhs; whnf)) ?_
        refine L_val rfl (x_index el58 (i := i) rfl rfl hcond) ?_
        refine L_val rfl (x_field fo_69_1 rfl) ?_
        refine L_val rfl (x_loadAgg ((Was i).map u8) ag67 rfl (by simp [hWl]) (fun j v hv => by rw [show 0 + i * 129 + 64 + j = 129 * i + 64 + j by omega]; exact hR.cellW hcond j v hv)) ?_
        refine L_alloc zero67 rfl (fun w3 hb3 hc3 hs3 => ?_)
        refine L_storeAll (cs := L8 (Was i)) sz67 rfl rfl rfl (by rw [L8_size]; exact hWl) (L8_one _) hb3 rfl (fun w4 hb4 hc4 => ?_)
        refine L_nil ?_
        have hlt2 := hR.lt
        have hR4 := (hR.chg0 hc3).chg hc4 (by simp; omega) (by simp; omega)
        have hc14 : Chg [br] w w4 := (hc1.trans0 hc3).trans hc4 (by simp; have := hc1.size; omega)
        have hb12 : br < w2.heap.size := hlt2.2
        refine W_seq ?_
        refine W_seq ?_
        refine W_region rfl ?_
        refine L_val rfl (x_move (by conv => lhs; whnf)) ?_
        refine L_val rfl (x_move (by conv => lhs; whnf)) ?_
        refine L_val rfl (x_eql rfl rfl rfl) ?_
        refine L_nil ?_
        by_cases htorn : (i : Int) = torn
        · refine W_true (congrArg Value.bool (decide_eq_true htorn)) ?_
          have hIb : Bt w4.drew (.slice (some ⟨br, 0 + i * 129 + 0, none⟩) 64 64) (Is i) := by
            rw [show 0 + i * 129 + 0 = 129 * i by omega]
            have := (hR4.chg0 (Chg.drew [] w4)).bt hcond
            rw [hIi] at this
            exact this
          refine W_tail 11 mixed (by kernel_rfl) rfl ?_
          refine L_val rfl (x_move (by conv => lhs; whnf)) ?_
          refine L_val rfl (x_sliceArrH ar67 (h := tornN m) rfl rfl htn64) ?_
          refine L_val rfl (x_move (by conv => lhs; whnf)) ?_
          refine L_val rfl (x_nilCheck rfl) ?_
          refine L_val rfl (x_field fo_60_0 rfl) ?_
          refine L_val rfl (x_load sc58 rfl (cell_at (v := .slice (some ⟨br, 0, none⟩) n n) hR4.desc rfl)) ?_
          refine L_val rfl (x_move (by conv => lhs; whnf)) ?_
          refine L_val rfl (x_index el58 (i := i) rfl rfl hcond) ?_
          refine L_val rfl (x_field fo_69_0 rfl) ?_
          refine L_val rfl (x_move (by conv => lhs; whnf)) ?_
          refine L_val rfl (x_sliceArrH ar67 (h := tornN m) rfl rfl htn64) ?_
          refine L_nil ?_
          have hIt : Bt w4.drew (.slice (some ⟨br, 0 + i * 129 + 0, none⟩) (tornN m) 64) ((Is i).take (tornN m)) := hIb.take (l := tornN m) htn64
          refine L_copy el37 rfl rfl rfl (hb4 : w4.drew.heap[w2.heap.size]? = _) hIt (by rw [L8_size]; omega) (b8 _) (fun w5 hb5 hc5 => ?_)
          refine L_nil ?_
          have htl : ((Is i).take (tornN m)).length = tornN m := by simp [hIl]; omega
          have hb5' : w5.heap[w2.heap.size]? = some (.cells (L8 ((Is i).take (tornN m) ++ (Was i).drop (tornN m))) 67 (0, 0)) := by
            rw [hb5, List.take_zero, List.nil_append, List.length_map, htl, Nat.min_self, Nat.zero_add, List.take_of_length_le (by rw [List.length_map, htl]; exact Nat.le_refl _)]
            simp [L8, List.map_drop]
          have hvl : ((Is i).take (tornN m) ++ (Was i).drop (tornN m)).length = 64 := by rw [List.length_append, htl, List.length_drop, hWl]; omega
          have hR5 := (hR4.chg0 (Chg.drew [] w4)).chg hc5 (by simp; omega) (by simp; omega)
          have hRd := hR5.chg0 (Chg.drew [] _)
          obtain ⟨c, hrow, hcs⟩ := hRd.row
          refine W_tail 8 mixed (by kernel_rfl) rfl ?_
          refine L_val rfl (x_move (by conv => lhs; whnf)) ?_
          refine L_val rfl (x_nilCheck rfl) ?_
          refine L_val rfl (x_field fo_60_0 rfl) ?_
          refine L_val rfl (x_load sc58 rfl (cell_at (v := .slice (some ⟨br, 0, none⟩) n n) hRd.desc rfl)) ?_
          refine L_val rfl (x_move (by conv => lhs; whnf)) ?_
          refine L_val rfl (x_loadRow ag67 rfl hb5' (by rw [L8_size]; exact hvl)) ?_
          refine L_val rfl (x_index el58 (i := i) rfl rfl hcond) ?_
          refine L_val rfl (x_field fo_69_0 rfl) ?_
          refine L_nil ?_
          refine L_storeAgg (cs := L8 ((Is i).take (tornN m) ++ (Was i).drop (tornN m))) sz67 rfl rfl rfl (by rw [L8_size]; exact hvl) (L8_one _) hrow (by omega) (fun w6 hb6 hc6 => ?_)
          refine L_nil ?_
          have hR6 := hRd.setI hcond hvl hrow (show 0 + i * 129 + 0 = 129 * i by omega) hb6 hc6
          refine W_region rfl ?_
          refine L_val rfl (x_move (by conv => lhs; whnf)) ?_
          refine L_val rfl (x_add rfl rfl (wr64 (c := ((i + 1 : Nat) : Int)) (by omega) (by omega) (by omega))) ?_
          refine L_val rfl (x_assign (by conv => lhs; whnf)) ?_
          refine L_nil ?_
          refine ⟨n - (i + 1), by omega, i + 1, by omega, rfl, ⟨rfl, rfl, rfl, rfl, rfl, trivial⟩, hR6.same (fun k _ => ?_) (fun _ _ => rfl) (fun _ _ => rfl), ((hc14.d.trans hc5 (by simp; have := hc1.size; omega)).d.same hc6)⟩
          by_cases e : k = i
          · subst e; rw [if_pos rfl, if_pos (by omega)]
            unfold crI
            rw [if_pos hcr, if_pos htorn]
          · by_cases e2 : k < i
            · rw [if_neg e, if_pos e2, if_pos (by omega)]
            · rw [if_neg e, if_neg e2, if_neg (by omega)]
        · refine W_false (congrArg Value.bool (decide_eq_false htorn)) ?_
          refine W_skip ?_
          have hRd := hR4.chg0 (Chg.drew [] _)
          obtain ⟨c, hrow, hcs⟩ := hRd.row
          refine W_tail 8 mixed (by kernel_rfl) rfl ?_
          refine L_val rfl (x_move (by conv => lhs; whnf)) ?_
          refine L_val rfl (x_nilCheck rfl) ?_
          refine L_val rfl (x_field fo_60_0 rfl) ?_
          refine L_val rfl (x_load sc58 rfl (cell_at (v := .slice (some ⟨br, 0, none⟩) n n) hRd.desc rfl)) ?_
          refine L_val rfl (x_move (by conv => lhs; whnf)) ?_
          refine L_val rfl (x_loadRow ag67 rfl hb4 (by rw [L8_size]; exact hWl)) ?_
          refine L_val rfl (x_index el58 (i := i) rfl rfl hcond) ?_
          refine L_val rfl (x_field fo_69_0 rfl) ?_
          refine L_nil ?_
          refine L_storeAgg (cs := L8 (Was i)) sz67 rfl rfl rfl (by rw [L8_size]; exact hWl) (L8_one _) hrow (by omega) (fun w6 hb6 hc6 => ?_)
          refine L_nil ?_
          have hR6 := hRd.setI hcond hWl hrow (show 0 + i * 129 + 0 = 129 * i by omega) hb6 hc6
          refine W_region rfl ?_
          refine L_val rfl (x_move (by conv => lhs; whnf)) ?_
          refine L_val rfl (x_add rfl rfl (wr64 (c := ((i + 1 : Nat) : Int)) (by omega) (by omega) (by omega))) ?_
          refine L_val rfl (x_assign (by conv => lhs; whnf)) ?_
          refine L_nil ?_
          refine ⟨n - (i + 1), by omega, i + 1, by omega, rfl, ⟨rfl, rfl, rfl, rfl, rfl, trivial⟩, hR6.same (fun k _ => ?_) (fun _ _ => rfl) (fun _ _ => rfl), (hc14.d.same hc6)⟩
          by_cases e : k = i
          · subst e; rw [if_pos rfl, if_pos (by omega)]
            unfold crI
            rw [if_pos hcr, if_neg htorn]
          · by_cases e2 : k < i
            · rw [if_neg e, if_pos e2, if_pos (by omega)]
            · rw [if_neg e, if_neg e2, if_neg (by omega)]
  · refine W_false (congrArg Value.bool (decide_eq_false (by omega))) ?_
    refine W_exit ?_
    have hin : i = n := by omega
    subst hin
    refine W_region rfl ?_
    refine L_val rfl (x_move (by conv => lhs; whnf)) ?_
    have hRn := hR.same (fun k hk => if_pos hk) (fun _ _ => rfl) (fun _ _ => rfl)
    refine L_call rfl (x_call ok11) (f11_sync hRn hn) (fun v w9 ⟨hR9, hc9⟩ => ?_)
    refine L_nil ?_
    exact res0 rfl ⟨hR9, hc1.same hc9⟩
end
end Go.Proofs.Ytinoebjhcmeppaa
