/- The walk of the program's (*wal.Log).read. -/
import Derived.Test.YtinoebjhcmeppaaWalA
namespace Go.Proofs.Ytinoebjhcmeppaa
open E Sha
set_option maxRecDepth 100000
set_option maxHeartbeats 2000000

/-- A block of bytes. -/
def Bk (w : World) (b : Nat) : Prop := ∃ c T z, w.heap[b]? = some (.cells c T z) ∧ (T = 5 ∨ T = 79)
theorem Bk.chg {w w' : World} {b : Nat} {U : List Nat} (h : Bk w b) (hc : Chg U w w') (hn : b ∉ U) : Bk w' b := by
  obtain ⟨c, T, z, hb, hT⟩ := h
  exact ⟨c, T, z, hc.at hb hn, hT⟩
theorem Bk.lt {w : World} {b : Nat} (h : Bk w b) : b < w.heap.size := by
  obtain ⟨c, T, z, hb, hT⟩ := h
  exact lt_of_at hb
theorem Bk.ne {w : World} {b b' : Nat} {c : Array Value} {T : TypeId} {z : Nat × Nat} (h : Bk w b) (hb : w.heap[b']? = some (.cells c T z)) (hT : T ≠ 5 ∧ T ≠ 79) : b ≠ b' := by
  intro e; subst e
  obtain ⟨c', T', z', hb', hT'⟩ := h
  rw [hb] at hb'
  simp at hb'
  obtain ⟨_, rfl, _⟩ := hb'
  rcases hT' with h | h
  · exact hT.1 h
  · exact hT.2 h
/-- What 'read' hands back. -/
def ReadV (w w' : World) (F : Nat → List Int) (n a k : Nat) (v : Value) : Prop :=
  match recAt F n a with
  | none => v = .tuple #[.slice none 0 0, .bool false]
  | some x => ∃ s, v = .tuple #[s, .bool (decide (sumB x k = wantAt F a))] ∧ Bt w' s x ∧ ∀ b, s.ownBlock = some b → w.heap.size ≤ b ∧ Bk w' b

theorem L8_bt {w : World} {b : Nat} {xs : List Int} {T : TypeId} {z : Nat × Nat} (hb : w.heap[b]? = some (.cells (L8 xs) T z)) (hl : xs.length = 64) : Bt w (.slice (some ⟨b, 0, none⟩) 64 64) xs :=
  L8_bytes hb (by rw [hl]; decide) hl

section
variable {w : World} {bd bs bm n : Nat} {S : Nat → List Int} {D : Nat → Option (List Int)}
theorem f21_read (h : Dk w bd bs bm n S D) (hF : ∀ i, i < n → InB (cur S D i)) (hn : n ≤ 4096) {bl k u at0 : Nat} (hL : Lg w bl bd k u) (hk : k ≤ 4096) (hat : at0 ≤ 4096) :
    Calls Try.prog 21 #[ptr bl 0, i64 (at0 : Nat)] w (Rv fun v w' => ReadV w w' (cur S D) n at0 k v ∧ Chg [] w w') := by
  have hbl := lt_of_at hL
  refine calls_W (args := [ptr bl 0, i64 (at0 : Nat)]) Try.func21 rfl Try.ntmps21 rfl ?_
  refine W_seq ?_
  refine W_region rfl ?_
  refine L_val rfl (x_assign (by conv => lhs; whnf)) ?_
  refine L_val rfl (x_assign (by conv => lhs; whnf)) ?_
  refine L_nil ?_
  refine W_seq ?_
  refine W_region rfl ?_
  refine L_val rfl (x_move (by conv => lhs; whnf)) ?_
  refine L_val rfl (x_nilCheck rfl) ?_
  refine L_val rfl (x_field fo_50_0 rfl) ?_
  refine L_val rfl (x_load sc24 rfl (cell_at (v := ptr bd 0) hL rfl)) ?_
  refine L_val rfl (x_move (by conv => lhs; whnf)) ?_
  refine L_call rfl (x_call ok24) (f24_read h at0) (fun v w1 ⟨hc1, hv⟩ => ?_)
  by_cases hlt : at0 < n
  · rw [if_pos hlt] at hv
    obtain ⟨b, rfl, hb, hbB⟩ := hv
    have hl64 := h.lenC hlt
    have hB1 := L8_bt hbB hl64
    refine L_val rfl (x_move (by conv => lhs; whnf)) ?_
    refine L_val rfl (x_extract rfl rfl) ?_
    refine L_val rfl (x_extract rfl rfl) ?_
    refine L_val rfl (x_assign (by conv => lhs; whnf)) ?_
    refine L_val rfl (x_assign (by conv => lhs; whnf)) ?_
    refine L_nil ?_
    refine W_seq ?_
    refine W_region rfl ?_
    refine L_val rfl (x_move (by conv => lhs; whnf)) ?_
    refine L_call rfl (x_call ok42) (f42_new hB1 (by rw [hl64]; decide)) (fun v w2 ⟨br, hv, hbr, hR2, hc2⟩ => ?_)
    subst hv
    refine L_val rfl (x_assign (by conv => lhs; whnf)) ?_
    refine L_nil ?_
    refine W_seq ?_
    refine W_region rfl ?_
    refine L_val rfl (x_move (by conv => lhs; whnf)) ?_
    refine L_call rfl (x_call ok43) (f43_num hR2 (by rw [hl64]; decide)) (fun v w3 ⟨hv, hc3⟩ => ?_)
    rw [if_pos ⟨rfl, by omega⟩] at hv
    obtain ⟨rfl, hR3⟩ := hv
    rw [nm_num4 (hF at0 hlt)]
    have hnl := num4_lt (hF at0 hlt)
    generalize hnum : num4 (cur S D at0) = num at *
    refine L_val rfl (x_conv kd73 kd3 rfl (wr64 (c := (num : Int)) (by omega) (by omega) (by omega))) ?_
    refine L_val rfl (x_assign (by conv => lhs; whnf)) ?_
    refine L_nil ?_
    refine W_seq ?_
    refine W_region rfl ?_
    refine L_val rfl (x_move (by conv => lhs; whnf)) ?_
    refine L_call rfl (x_call ok44) (f44_raw (n := 8) hR3 (by simp; omega) (by decide)) (fun vW w4 ⟨hv, hc4⟩ => ?_)
    rw [if_pos ⟨rfl, by simp; omega⟩] at hv
    obtain ⟨hoW, hR4⟩ := hv
    refine L_val rfl (x_assign (v := vW) rfl) ?_
    refine L_nil ?_
    have hc04 : Chg [] w w4 := ((hc1.same hc2).trans hc3 (by have := hc1.size; simp; omega)).trans hc4 (by have := hc1.size; simp; omega)
    have h4 := h.chg0 hc04
    have hL4 : Lg w4 bl bd k u := hc04.at hL (by simp)
    have hw1 := lt_of_at hbB
    have hw2 := hc2.size
    have hbB4 : w4.heap[b]? = some (.cells (L8 (cur S D at0)) 79 (0, 0)) := hc4.at (hc3.at (hc2.at hbB (by simp)) (by simp; omega)) (by simp; omega)
    refine W_seq ?_
    refine W_seq ?_
    refine W_region rfl ?_
    refine L_val rfl (x_move (by conv => lhs; whnf)) ?_
    refine L_val rfl (x_neq (r := true) rfl rfl (by decide)) ?_
    refine L_val rfl (x_move (by conv => lhs; whnf)) ?_
    refine L_val rfl (x_move (by conv => lhs; whnf)) ?_
    by_cases h1 : num < 1
    ·
      refine L_val rfl (x_lss (r := true) rfl rfl (decide_eq_true (by omega))) ?_
      refine L_val rfl (x_pick_f rfl (by conv => lhs; whnf)) ?_
      refine L_val rfl (x_move (by conv => lhs; whnf)) ?_
      refine L_no rfl ?_
      refine L_no rfl ?_
      refine L_val rfl (x_pick_t rfl (by conv => lhs; whnf)) ?_
      refine L_val rfl (x_move (by conv => lhs; whnf)) ?_
      iterate 13 refine L_no rfl ?_
      refine L_val rfl (x_pick_t rfl (by conv => lhs; whnf)) ?_
      refine L_nil ?_
      refine W_true rfl ?_
      refine W_seq ?_
      refine W_region rfl ?_
      refine L_val rfl (x_assign (by conv => lhs; whnf)) ?_
      refine L_val rfl (x_assign (by conv => lhs; whnf)) ?_
      refine L_nil ?_
      refine W_ret ?_
      refine res2 rfl rfl rfl ⟨?_, hc04⟩
      unfold ReadV recAt
      rw [if_neg (by rw [hnum]; omega)]
      rfl
    refine L_val rfl (x_lss (r := false) rfl rfl (decide_eq_false (by omega))) ?_
    refine L_val rfl (x_pick_f rfl (by conv => lhs; whnf)) ?_
    refine L_val rfl (x_move (by conv => lhs; whnf)) ?_
    refine L_val rfl (x_move (by conv => lhs; whnf)) ?_
    by_cases h2 : 20000 < num
    · refine L_val rfl (x_gtr (r := true) rfl rfl (decide_eq_true (by omega))) ?_
      refine L_val rfl (x_pick_f rfl (by conv => lhs; whnf)) ?_
      refine L_val rfl (x_move (by conv => lhs; whnf)) ?_
      iterate 13 refine L_no rfl ?_
      refine L_val rfl (x_pick_t rfl (by conv => lhs; whnf)) ?_
      refine L_nil ?_
      refine W_true rfl ?_
      refine W_seq ?_
      refine W_region rfl ?_
      refine L_val rfl (x_assign (by conv => lhs; whnf)) ?_
      refine L_val rfl (x_assign (by conv => lhs; whnf)) ?_
      refine L_nil ?_
      refine W_ret ?_
      refine res2 rfl rfl rfl ⟨?_, hc04⟩
      unfold ReadV recAt
      rw [if_neg (by rw [hnum]; omega)]
      rfl
    refine L_val rfl (x_gtr (r := false) rfl rfl (decide_eq_false (by omega))) ?_
    refine L_val rfl (x_pick_f rfl (by conv => lhs; whnf)) ?_
    refine L_val rfl (x_move (by conv => lhs; whnf)) ?_
    refine L_val rfl (x_move (by conv => lhs; whnf)) ?_
    refine L_val rfl (x_add rfl rfl (wr64 (c := ((12 + num : Nat) : Int)) (by omega) (by omega) (by omega))) ?_
    refine L_val rfl (x_add rfl rfl (wr64 (c := ((12 + num + 64 : Nat) : Int)) (by omega) (by omega) (by omega))) ?_
    refine L_val rfl (x_sub rfl rfl (wr64 (c := ((num + 75 : Nat) : Int)) (by omega) (by omega) (by omega))) ?_
    refine L_val rfl (x_quo rfl rfl (by decide) (quo64 (c := (((num + 75) / 64 : Nat) : Int)) (by omega) (by omega) (by omega) (by omega))) ?_
    refine L_val rfl (x_move (by conv => lhs; whnf)) ?_
    refine L_val rfl (x_nilCheck rfl) ?_
    refine L_val rfl (x_field fo_50_0 rfl) ?_
    refine L_val rfl (x_load sc24 rfl (cell_at (v := ptr bd 0) hL4 rfl)) ?_
    refine L_enterQ rfl (x_call ok23) (f23_len h4) ?_
    refine L_val rfl (x_move (by conv => lhs; whnf)) ?_
    refine L_val rfl (x_sub rfl rfl (wr64 (c := ((n - at0 : Nat) : Int)) (by omega) (by omega) (by omega))) ?_
    refine L_val rfl (x_gtr rfl rfl rfl) ?_
    refine L_val rfl (x_pick_f rfl (by conv => lhs; whnf)) ?_
    refine L_nil ?_
    by_cases h3 : n - at0 < (num + 75) / 64
    · refine W_true (congrArg Value.bool (decide_eq_true (by omega))) ?_
      refine W_seq ?_
      refine W_region rfl ?_
      refine L_val rfl (x_assign (by conv => lhs; whnf)) ?_
      refine L_val rfl (x_assign (by conv => lhs; whnf)) ?_
      refine L_nil ?_
      refine W_ret ?_
      refine res2 rfl rfl rfl ⟨?_, hc04⟩
      unfold ReadV recAt
      rw [if_neg (by rw [hnum]; omega)]
      rfl
    refine W_false (congrArg Value.bool (decide_eq_false (by omega))) ?_
    refine W_skip ?_
    refine W_seq ?_
    refine W_seq ?_
    generalize hK : (num + 75) / 64 = K at *
    have hrec : recAt (cur S D) n at0 = some (((flat (cur S D) at0 K).drop 12).take num) := by
      unfold recAt
      rw [hnum, hK, if_pos (by omega)]
    have hBW : Bt w4 vW (((cur S D at0).drop 4).take 8) := hoW.bt
    have hoWb : ∀ b, vW.ownBlock = some b → b < w4.heap.size := fun b hb => (hoW.lt b hb).2
    refine W_region rfl ?_
    refine L_val rfl (x_assign (by conv => lhs; whnf)) ?_
    refine L_nil ?_
    refine W_block ?_
    have hlF : ∀ i, i < n → (cur S D i).length = 64 := fun i hi => h.lenC hi
    have hltw := h4.lt
    refine W_loop (fun m f w5 => ∃ i v6, 1 ≤ i ∧ i ≤ K ∧ m = K - i ∧ Frm f [(0, ptr bl 0), (1, i64 (at0 : Nat)), (6, v6), (9, i64 (num : Nat)), (10, vW), (11, i64 (i : Nat))] ∧
        Grow w5 w4.heap.size v6 ((flat (cur S D) at0 i).map u8) ∧ (∀ b, v6.ownBlock = some b → w.heap.size ≤ b ∧ Bk w5 b) ∧ Upto w4.heap.size w4 w5) (K - 1)
      ⟨1, _, by omega, by omega, rfl, ⟨rfl, rfl, rfl, rfl, rfl, rfl, trivial⟩, ?_, ?_, Upto.refl _ _⟩ (fun m f w5 hI => ?_)
    · have hf1 : flat (cur S D) at0 1 = cur S D at0 := by simp [flat]
      rw [hf1]
      exact .inr ⟨b, 0, by rw [List.length_map, hl64], L8_bt hbB4 hl64⟩
    · intro b' hb'
      have hb'' : (Value.slice (some ⟨b, 0, none⟩) 64 64).ownBlock = some b' := hb'
      simp [Value.ownBlock] at hb''
      subst hb''
      exact ⟨hb, _, _, _, hbB4, .inr rfl⟩
    obtain ⟨i, v6, hi1, hiK, rfl, hFr, hG, hv6, hu5⟩ := hI
    obtain ⟨g, rfl⟩ := hFr.eta
    have hfl := flat_len hlF at0 i (by omega)
    have hB6 : Bt w5 v6 (flat (cur S D) at0 i) := hG.rw
    obtain ⟨a6, cap6, rfl⟩ := hB6.is
    have hl6 := hB6.lens
    refine W_seq ?_
    refine W_seq ?_
    refine W_region rfl ?_
    refine L_val rfl (x_move (by conv => lhs; whnf)) ?_
    refine L_val rfl (x_len el37 rfl) ?_
    refine L_val rfl (x_move (by conv => lhs; whnf)) ?_
    refine L_val rfl (x_add rfl rfl (wr64 (c := ((12 + num : Nat) : Int)) (by omega) (by omega) (by omega))) ?_
    refine L_val rfl (x_lss rfl rfl rfl) ?_
    refine L_nil ?_
    by_cases hcond : i < K
    · refine W_true (congrArg Value.bool (decide_eq_true (by omega))) ?_
      refine W_skip ?_
      refine W_seq ?_
      refine W_block ?_
      refine W_seq ?_
      have h5 := h4.upto hu5 hltw.1 hltw.2.1 hltw.2.2
      have hL5 : Lg w5 bl bd k u := hu5.at hL4 (by have := hc04.size; omega)
      refine W_region rfl ?_
      refine L_val rfl (x_move (by conv => lhs; whnf)) ?_
      refine L_val rfl (x_nilCheck rfl) ?_
      refine L_val rfl (x_field fo_50_0 rfl) ?_
      refine L_val rfl (x_load sc24 rfl (cell_at (v := ptr bd 0) hL5 rfl)) ?_
      refine L_val rfl (x_move (by conv => lhs; whnf)) ?_
      refine L_val rfl (x_move (by conv => lhs; whnf)) ?_
      refine L_val rfl (x_add rfl rfl (wr64 (c := ((at0 + i : Nat) : Int)) (by omega) (by omega) (by omega))) ?_
      refine L_call rfl (x_call ok24) (f24_read h5 (at0 + i)) (fun v w6 ⟨hc6, hv⟩ => ?_)
      rw [if_pos (by omega)] at hv
      obtain ⟨bm6, rfl, hbm6, hbB6⟩ := hv
      have hl6' := hlF (at0 + i) (by omega)
      have hBm := L8_bt hbB6 hl6'
      refine L_val rfl (x_move (by conv => lhs; whnf)) ?_
      refine L_val rfl (x_extract rfl rfl) ?_
      refine L_val rfl (x_extract rfl rfl) ?_
      refine L_val rfl (x_assign (by conv => lhs; whnf)) ?_
      refine L_val rfl (x_assign (by conv => lhs; whnf)) ?_
      refine L_nil ?_
      refine W_region rfl ?_
      refine L_val rfl (x_move (by conv => lhs; whnf)) ?_
      refine L_val rfl (x_move (by conv => lhs; whnf)) ?_
      have hG6 : Grow w6 w4.heap.size (.slice a6 (flat (cur S D) at0 i).length cap6) ((flat (cur S D) at0 i).map u8) := by
        rcases hG with ho | ⟨b1, o1, e1, hr1⟩
        · exact .inl (own_chg ho hc6 (by simp))
        · exact .inr ⟨b1, o1, e1, hr1.chg0 hc6⟩
      refine L_appendG e1_37 rfl rfl rfl hG6 hBm (b8 _) (fun h0 => by have := congrArg List.length h0; simp [hl6'] at this) (by simp [hfl, hl6']; omega) (by have := hu5.size; have := hc6.size; omega) (fun v7 w7 ho7 hu7 => ?_)
      refine L_val rfl (x_assign (v := v7) rfl) ?_
      refine L_nil ?_
      refine W_region rfl ?_
      refine L_val rfl (x_move (by conv => lhs; whnf)) ?_
      refine L_val rfl (x_add rfl rfl (wr64 (c := ((i + 1 : Nat) : Int)) (by omega) (by omega) (by omega))) ?_
      refine L_val rfl (x_assign (by conv => lhs; whnf)) ?_
      refine L_nil ?_
      have hcat : (flat (cur S D) at0 i).map u8 ++ (cur S D (at0 + i)).map u8 = (flat (cur S D) at0 (i + 1)).map u8 := by rw [flat_succ, List.map_append]
      rw [hcat] at ho7
      refine ⟨K - (i + 1), by omega, i + 1, v7, by omega, by omega, rfl, ⟨rfl, rfl, rfl, rfl, rfl, rfl, trivial⟩, .inl ho7, fun b hb => ?_, (hu5.trans (Upto.of hc6 (by simp))).trans hu7⟩
      have h1 := ho7.lt b hb
      have := hc04.size
      refine ⟨by omega, ?_⟩
      rcases ho7.2 with ⟨e7, _⟩ | ⟨g7, cap7, cur7, e7, _, hg7, _⟩
      · rw [e7] at hb; simp [Value.ownBlock] at hb
      · rw [e7] at hb; simp [Value.ownBlock] at hb
        subst hb
        exact ⟨_, _, _, hg7, .inl rfl⟩
    · refine W_false (congrArg Value.bool (decide_eq_false (by omega))) ?_
      refine W_exit ?_
      refine W_seq ?_
      have hiK' : i = K := by omega
      subst hiK'
      refine W_region rfl ?_
      refine L_val rfl (x_move (by conv => lhs; whnf)) ?_
      refine L_val rfl (x_move (by conv => lhs; whnf)) ?_
      refine L_val rfl (x_add rfl rfl (wr64 (c := ((12 + num : Nat) : Int)) (by omega) (by omega) (by omega))) ?_
      refine L_val rfl (x_slice el37 (l := 12) (h := 12 + num) rfl rfl rfl (by omega) (by omega)) ?_
      refine L_val rfl (x_assign (by conv => lhs; whnf)) ?_
      refine L_nil ?_
      refine W_seq ?_
      have hBx : Bt w5 (.slice (baseAt a6 cap6 12 1) (12 + num - 12) (cap6 - 12)) (((flat (cur S D) at0 i).drop 12).take num) := by
        have := hB6.slice (l := 12) (h := 12 + num) (by omega) (by omega)
        rw [← List.map_take, ← List.map_drop, List.drop_take, show 12 + num - 12 = num by omega] at this
        rwa [show 12 + num - 12 = num by omega]
      have hL5 : Lg w5 bl bd k u := hu5.at hL4 (by have := hc04.size; omega)
      have hown6 : ∀ b, (Value.slice (baseAt a6 cap6 12 1) (12 + num - 12) (cap6 - 12)).ownBlock = some b → w.heap.size ≤ b ∧ Bk w5 b := fun b hb =>
        hv6 b ((ownBlock_baseAt (n' := (flat (cur S D) at0 i).length) (cap' := cap6)).symm.trans hb)
      generalize hvx : Value.slice (baseAt a6 cap6 12 1) (12 + num - 12) (cap6 - 12) = vx at *
      refine W_region rfl ?_
      refine L_val rfl (x_move (v := vx) rfl) ?_
      refine L_val rfl (x_move (v := vx) rfl) ?_
      refine L_val rfl (x_move (by conv => lhs; whnf)) ?_
      refine L_val rfl (x_nilCheck rfl) ?_
      refine L_val rfl (x_field fo_50_1 rfl) ?_
      refine L_val rfl (x_load sc3 rfl (cell_at (v := i64 (k : Nat)) hL5 rfl)) ?_
      refine L_call rfl (x_call ok35) (f35_sum hBx (by simp [hfl]; omega) (by omega)) (fun vs w6 ⟨hBs, hos, hc6⟩ => ?_)
      refine L_val rfl (x_move (v := vW) rfl) ?_
      refine L_call rfl (x_call ok45) (f45_equal hBs ((hBW.upto hu5 hoWb).chg0 hc6)) (fun v7 w7 ⟨hv7, hc7⟩ => ?_)
      subst hv7
      refine L_val rfl (x_assign (v := vx) rfl) ?_
      refine L_val rfl (x_assign (by conv => lhs; whnf)) ?_
      refine L_nil ?_
      refine W_ret ?_
      have hc5 : Chg [] w w5 := ⟨hu5.os.trans hc04.os, hu5.tape.trans hc04.tape, hu5.output.trans hc04.output, Nat.le_trans hc04.size hu5.size, fun k' hk' _ => (hu5.block k' (hc04.lt hk') (hc04.lt hk')).trans (hc04.block k' hk' (by simp))⟩
      refine res2 (v1 := vx) rfl rfl rfl ⟨?_, (hc5.same hc6).same hc7⟩
      unfold ReadV
      rw [hrec]
      refine ⟨vx, rfl, (hBx.chg0 hc6).chg0 hc7, fun b hb => ?_⟩
      have h1 := hown6 b hb
      exact ⟨h1.1, (h1.2.chg hc6 (by simp)).chg hc7 (by simp)⟩
  ·
    rw [if_neg hlt] at hv
    subst hv
    refine L_val rfl (x_move (by conv => lhs; whnf)) ?_
    refine L_val rfl (x_extract rfl rfl) ?_
    refine L_val rfl (x_extract rfl rfl) ?_
    refine L_val rfl (x_assign (by conv => lhs; whnf)) ?_
    refine L_val rfl (x_assign (by conv => lhs; whnf)) ?_
    refine L_nil ?_
    refine W_seq ?_
    refine W_region rfl ?_
    refine L_val rfl (x_move (by conv => lhs; whnf)) ?_
    refine L_call rfl (x_call ok42) (f42_new (ys := []) (Rw.nil w1) (by simp)) (fun v w2 ⟨br, hv, hbr, hR2, hc2⟩ => ?_)
    subst hv
    refine L_val rfl (x_assign (by conv => lhs; whnf)) ?_
    refine L_nil ?_
    refine W_seq ?_
    refine W_region rfl ?_
    refine L_val rfl (x_move (by conv => lhs; whnf)) ?_
    refine L_call rfl (x_call ok43) (f43_num hR2 (by simp)) (fun v w3 ⟨hv, hc3⟩ => ?_)
    rw [if_neg (by simp)] at hv
    obtain ⟨rfl, hR3⟩ := hv
    refine L_val rfl (x_conv kd73 kd3 rfl (wr64 (c := ((0 : Nat) : Int)) (by omega) (by omega) (by omega))) ?_
    refine L_val rfl (x_assign (by conv => lhs; whnf)) ?_
    refine L_nil ?_
    refine W_seq ?_
    refine W_region rfl ?_
    refine L_val rfl (x_move (by conv => lhs; whnf)) ?_
    refine L_call rfl (x_call ok44) (f44_raw (n := 8) hR3 (by simp) (by decide)) (fun vW w4 ⟨hv, hc4⟩ => ?_)
    rw [if_neg (by simp)] at hv
    obtain ⟨rfl, hR4⟩ := hv
    refine L_val rfl (x_assign (by conv => lhs; whnf)) ?_
    refine L_nil ?_
    have hc04 : Chg [] w w4 := ((hc1.same hc2).trans hc3 (by have := hc1.size; simp; omega)).trans hc4 (by have := hc1.size; simp; omega)
    refine W_seq ?_
    refine W_seq ?_
    refine W_region rfl ?_
    refine L_val rfl (x_move (by conv => lhs; whnf)) ?_
    refine L_val rfl (x_neq (r := false) rfl rfl (by decide)) ?_
    refine L_val rfl (x_move (by conv => lhs; whnf)) ?_
    refine L_no rfl ?_
    refine L_no rfl ?_
    refine L_val rfl (x_pick_t rfl (by conv => lhs; whnf)) ?_
    refine L_val rfl (x_move (by conv => lhs; whnf)) ?_
    refine L_no rfl ?_
    refine L_no rfl ?_
    refine L_val rfl (x_pick_t rfl (by conv => lhs; whnf)) ?_
    refine L_val rfl (x_move (by conv => lhs; whnf)) ?_
    iterate 13 refine L_no rfl ?_
    refine L_val rfl (x_pick_t rfl (by conv => lhs; whnf)) ?_
    refine L_nil ?_
    refine W_true rfl ?_
    refine W_seq ?_
    refine W_region rfl ?_
    refine L_val rfl (x_assign (by conv => lhs; whnf)) ?_
    refine L_val rfl (x_assign (by conv => lhs; whnf)) ?_
    refine L_nil ?_
    refine W_ret ?_
    refine res2 rfl rfl rfl ⟨?_, hc04⟩
    unfold ReadV recAt
    rw [if_neg (by omega)]
    rfl
end
end Go.Proofs.Ytinoebjhcmeppaa
