/- The document's log; the walk of its Put. -/
import Derived.Test.YtinoebjhcmeppaaRefF
namespace Go.Proofs.Ytinoebjhcmeppaa
open E Sha
set_option maxRecDepth 100000
set_option maxHeartbeats 4000000

/-- The document's log: its disk, how many records, how many sectors. -/
def Xl (w : World) (bl bx k u : Nat) : Prop := w.heap[bl]? = some (.cells #[ptr bx 0, i64 (k : Nat), i64 (u : Nat)] 62 (0, 0))
theorem xl_ne {w : World} {bl bx br n k u : Nat} {Is Was : Nat → List Int} {Dt : Nat → Bool} (h : Xd w bx br n Is Was Dt) (hl : Xl w bl bx k u) : bl ≠ bx ∧ bl ≠ br := by
  have h9 : w.heap[bl]? = _ := hl
  refine ⟨fun e => ?_, fun e => ?_⟩
  · subst e; have h1 := h.desc; rw [h9] at h1; simp at h1
  · subst e; obtain ⟨c, h1, _⟩ := h.row; rw [h9] at h1; simp at h1
theorem take_drop_piece (B : List Int) (i : Nat) (h : 64 * i ≤ B.length) : ((B.map u8).take (min B.length (64 * (i + 1)))).drop (64 * i) = (piece B i).map u8 := by
  rw [← List.map_take, ← List.map_drop, piece]
  congr 1
  rw [List.drop_take]
  by_cases e : B.length ≤ 64 * (i + 1)
  · rw [Nat.min_eq_left e, List.take_of_length_le (by simp), List.take_of_length_le (by simp; omega)]
  · rw [Nat.min_eq_right (by omega), show 64 * (i + 1) - 64 * i = 64 by omega]
theorem piece_len (B : List Int) (j : Nat) : (piece B j).length ≤ 64 := by simp [piece]; omega

section
variable {w : World} {bx br n : Nat} {Is Was : Nat → List Int} {Dt : Nat → Bool}
theorem f13_put (h : Xd w bx br n Is Was Dt) {bl k u : Nat} (hL : Xl w bl bx k u) {x : Value} {ys : List Int} (hx : Bt w x ys) (h1 : 1 ≤ ys.length) (h2 : ys.length ≤ 20000) (hn : n ≤ 4096) (hk : k ≤ 4096) (hfit : u + (ys.length + 75) / 64 ≤ n) :
    Calls Try.prog 13 #[ptr bl 0, x] w (Rv fun _ w' => Xd w' bx br n (putF Is (recB ys k) u ((ys.length + 75) / 64)) Was (fun i => if u ≤ i ∧ i < u + (ys.length + 75) / 64 then true else Dt i) ∧
      Xl w' bl bx (k + 1) (u + (ys.length + 75) / 64) ∧ Chg [br, bl] w w') := by
  have hmx := max_big
  have hlt := h.lt
  have hne := xl_ne h hL
  obtain ⟨ax, capx, rfl⟩ := hx.is
  generalize hsec : (ys.length + 75) / 64 = sec at *
  refine calls_W (args := [ptr bl 0, .slice ax ys.length capx]) Try.func13 rfl Try.ntmps13 rfl ?_
  refine W_seq ?_
  refine W_region rfl ?_
  refine L_val rfl (x_assign (by conv => lhs; whnf)) ?_
  refine L_nil ?_
  refine W_seq ?_
  refine W_seq ?_
  refine W_region rfl ?_
  refine L_val rfl (x_move (by conv => lhs; whnf)) ?_
  refine L_val rfl (x_len el37 rfl) ?_
  refine L_val rfl (x_lss rfl rfl (decide_eq_false (by omega))) ?_
  refine L_val rfl (x_move (by conv => lhs; whnf)) ?_
  refine L_val rfl (x_move (by conv => lhs; whnf)) ?_
  refine L_val rfl (x_len el37 rfl) ?_
  refine L_val rfl (x_gtr rfl rfl (decide_eq_false (by omega))) ?_
  refine L_val rfl (x_pick_f rfl (by conv => lhs; whnf)) ?_
  refine L_nil ?_
  refine W_false rfl ?_
  refine W_skip ?_
  refine W_seq ?_
  refine W_region rfl ?_
  refine L_val rfl (x_move (by conv => lhs; whnf)) ?_
  refine L_val rfl (x_len el37 rfl) ?_
  refine L_enterQ rfl (x_call ok32) (f32_sectors (m := ys.length) (by omega)) ?_
  rw [hsec]
  refine L_val rfl (x_assign (by conv => lhs; whnf)) ?_
  refine L_nil ?_
  refine W_seq ?_
  refine W_seq ?_
  refine W_still mixed (by kernel_rfl) rfl ?_
  refine L_val rfl (x_move (by conv => lhs; whnf)) ?_
  refine L_val rfl (x_move (by conv => lhs; whnf)) ?_
  refine L_val rfl (x_nilCheck rfl) ?_
  refine L_val rfl (x_field fo_62_0 rfl) ?_
  refine L_val rfl (x_load sc31 rfl (cell_at (v := ptr bx 0) hL rfl)) ?_
  refine L_val rfl (x_nilCheck rfl) ?_
  refine L_val rfl (x_field fo_60_0 rfl) ?_
  refine L_val rfl (x_load sc58 rfl (cell_at (v := .slice (some ⟨br, 0, none⟩) n n) h.desc rfl)) ?_
  refine L_val rfl (x_len el58 rfl) ?_
  refine L_val rfl (x_move (by conv => lhs; whnf)) ?_
  refine L_val rfl (x_nilCheck rfl) ?_
  refine L_val rfl (x_field fo_62_2 rfl) ?_
  refine L_val rfl (x_load sc3 rfl (cell_at (v := i64 (u : Nat)) hL rfl)) ?_
  refine L_val rfl (x_sub rfl rfl (wr64 (c := ((n - u : Nat) : Int)) (by omega) (by omega) (by omega))) ?_
  refine L_val rfl (x_gtr rfl rfl (decide_eq_false (by omega))) ?_
  refine L_nil ?_
  refine W_false rfl ?_
  refine W_skip ?_
  refine W_seq ?_
  have hL0 : Xl w.drew bl bx k u := (Chg.drew [] w).at hL (by simp)
  have hx0 := hx.chg0 (Chg.drew [] w)
  refine W_region rfl ?_
  refine L_val rfl (x_move (by conv => lhs; whnf)) ?_
  refine L_val rfl (x_move (by conv => lhs; whnf)) ?_
  refine L_val rfl (x_nilCheck rfl) ?_
  refine L_val rfl (x_field fo_62_1 rfl) ?_
  refine L_val rfl (x_load sc3 rfl (cell_at (v := i64 (k : Nat)) hL0 rfl)) ?_
  refine L_call rfl (x_call ok31) (f31_front hx0 (by omega) (by omega)) (fun v2 w2 ⟨ho2, hc2⟩ => ?_)
  refine L_val rfl (x_move (by conv => lhs; whnf)) ?_
  have hC2 : Chg [] w w2 := (Chg.drew [] w).trans0 hc2
  have hfl : (nb ys.length 4 ++ sumB ys k).length = 12 := by simp [nb_len, sumB_len]
  refine L_append e1_37 rfl rfl rfl ho2 (hx0.chg0 hc2) (fun u hu => by simp only [List.mem_map] at hu; obtain ⟨z, _, rfl⟩ := hu; rfl) (by simp only [List.length_map]; omega) (by simp only [List.length_map]; omega) hc2.size (fun v3 w3 ha => ?_)
  refine L_val rfl (x_assign (v := v3) rfl) ?_
  refine L_nil ?_
  have ho3 := ha.own
  rw [← List.map_append, List.length_map] at ho3
  have hBl : (nb ys.length 4 ++ sumB ys k ++ ys).length = ys.length + 12 := by rw [List.length_append, hfl]; omega
  have hC3 : Chg [] w w3 := hC2.out ha.chg (fun k hk => own_new ho2 k hk)
  have hB : nb ys.length 4 ++ sumB ys k ++ ys = recB ys k := rfl
  rw [hB] at ho3 hBl
  generalize recB ys k = B at *
  obtain ⟨aB, capB, rfl⟩ := own_slice ho3
  refine W_seq ?_
  refine W_seq ?_
  refine W_region rfl ?_
  refine L_val rfl (x_assign (by conv => lhs; whnf)) ?_
  refine L_nil ?_
  refine W_block ?_
  refine W_loop (fun mm f w4 => ∃ i, i ≤ sec ∧ mm = sec - i ∧ Frm f [(0, ptr bl 0), (5, i64 (sec : Nat)), (6, .slice aB B.length capB), (7, i64 (i : Nat))] ∧ Xd w4 bx br n (putF Is B u i) Was (fun j => if u ≤ j ∧ j < u + i then true else Dt j) ∧ Chg [br] w3 w4) sec
    ⟨0, by omega, rfl, ⟨rfl, rfl, rfl, rfl, trivial⟩, (h.chg0 hC3).same (fun j _ => (if_neg (by omega)).symm) (fun _ _ => rfl) (fun j _ => (if_neg (by omega)).symm), Chg.refl _ _⟩ (fun mm f w4 hI => ?_)
  obtain ⟨i, hi, rfl, hF, hR, hc4⟩ := hI
  obtain ⟨g, rfl⟩ := hF.eta
  have hL4 : w4.heap[bl]? = some (.cells #[ptr bx 0, i64 (k : Nat), i64 (u : Nat)] 62 (0, 0)) := hc4.at (hC3.at hL (by simp)) (by simp; omega)
  refine W_seq ?_
  refine W_seq ?_
  refine W_region rfl ?_
  refine L_val rfl (x_move (by conv => lhs; whnf)) ?_
  refine L_val rfl (x_move (by conv => lhs; whnf)) ?_
  refine L_val rfl (x_lss rfl rfl rfl) ?_
  refine L_nil ?_
  by_cases hcond : i < sec
  · refine W_true (congrArg Value.bool (decide_eq_true (by omega))) ?_
    refine W_skip ?_
    refine W_seq ?_
    refine W_block ?_
    have ho4 : w4.ownsRow w.heap.size 5 1 (.slice aB B.length capB) B.length (B.map u8) := own_weak (own_chg ho3 hc4 (fun b hb => by have := own_new ho3 b (by simp [hb]); have := hC2.size; have hd : w.drew.heap.size = w.heap.size := rfl; simp; omega)) (Nat.le_refl _)
    have hmin : (if ((64 * (i + 1) : Nat) : Int) < ((B.length : Nat) : Int) then ((64 * (i + 1) : Nat) : Int) else ((B.length : Nat) : Int)) = ((min B.length (64 * (i + 1)) : Nat) : Int) := by
      by_cases e : ((64 * (i + 1) : Nat) : Int) < ((B.length : Nat) : Int)
      · rw [if_pos e]; omega
      · rw [if_neg e]; omega
    have hpb : Bt w4.drew (.slice (baseAt aB capB (64 * i) 1) (min B.length (64 * (i + 1)) - 64 * i) (capB - 64 * i)) (piece B i) := by
      have hb := (Rw.of_own ho4).slice (l := 64 * i) (h := min B.length (64 * (i + 1))) (by omega) (by omega)
      rw [take_drop_piece B i (by omega)] at hb
      exact Rw.chg0 hb (Chg.drew [] w4)
    have hcapB := (Rw.of_own ho4).lens
    refine W_tail 20 mixed (by kernel_rfl) rfl ?_
    refine L_val rfl (x_move (by conv => lhs; whnf)) ?_
    refine L_val rfl (x_nilCheck rfl) ?_
    refine L_val rfl (x_field fo_62_0 rfl) ?_
    refine L_val rfl (x_load sc31 rfl (cell_at (v := ptr bx 0) hL4 rfl)) ?_
    refine L_val rfl (x_move (by conv => lhs; whnf)) ?_
    refine L_val rfl (x_nilCheck rfl) ?_
    refine L_val rfl (x_field fo_62_2 rfl) ?_
    refine L_val rfl (x_load sc3 rfl (cell_at (v := i64 (u : Nat)) hL4 rfl)) ?_
    refine L_val rfl (x_move (by conv => lhs; whnf)) ?_
    refine L_val rfl (x_add rfl rfl (wr64 (c := ((u + i : Nat) : Int)) (by omega) (by omega) (by omega))) ?_
    refine L_val rfl (x_move (by conv => lhs; whnf)) ?_
    refine L_val rfl (x_move (by conv => lhs; whnf)) ?_
    refine L_val rfl (x_mul rfl rfl (wr64 (c := ((64 * i : Nat) : Int)) (by omega) (by omega) (by omega))) ?_
    refine L_val rfl (x_move (by conv => lhs; whnf)) ?_
    refine L_val rfl (x_len el37 rfl) ?_
    refine L_val rfl (x_move (by conv => lhs; whnf)) ?_
    refine L_val rfl (x_add rfl rfl (wr64 (c := ((i + 1 : Nat) : Int)) (by omega) (by omega) (by omega))) ?_
    refine L_val rfl (x_mul rfl rfl (wr64 (c := ((64 * (i + 1) : Nat) : Int)) (by omega) (by omega) (by omega))) ?_
    refine L_val (v := i64 ((min B.length (64 * (i + 1)) : Nat) : Int)) rfl (by rw [← hmin]; exact x_min rfl rfl) ?_
    refine L_val rfl (x_slice (l := 64 * i) (h := min B.length (64 * (i + 1))) el37 rfl rfl rfl (by omega) (by omega)) ?_
    refine L_nil ?_
    refine L_call rfl (x_call ok38) (f38_write (at0 := u + i) (hR.chg0 (Chg.drew [] w4)) hn hpb (by omega) (piece_len B i)) (fun v5 w5 ⟨hv5, hR5, hc5⟩ => ?_)
    refine L_nil ?_
    refine W_region rfl ?_
    refine L_val rfl (x_move (by conv => lhs; whnf)) ?_
    refine L_val rfl (x_add rfl rfl (wr64 (c := ((i + 1 : Nat) : Int)) (by omega) (by omega) (by omega))) ?_
    refine L_val rfl (x_assign (by conv => lhs; whnf)) ?_
    refine L_nil ?_
    refine ⟨sec - (i + 1), by omega, i + 1, by omega, rfl, ⟨rfl, rfl, rfl, rfl, trivial⟩, hR5.same (fun j _ => ?_) (fun _ _ => rfl) (fun j _ => ?_), hc4.d.same hc5⟩
    · unfold putF
      by_cases e : j = u + i
      · subst e; rw [if_pos rfl, if_pos (by omega), show u + i - u = i by omega]
      · rw [if_neg e]
        by_cases e2 : u ≤ j ∧ j < u + i
        · rw [if_pos e2, if_pos (by omega)]
        · rw [if_neg e2, if_neg (by omega)]
    · by_cases e : j = u + i
      · subst e; rw [if_pos rfl, if_pos (by omega)]
      · rw [if_neg e]
        by_cases e2 : u ≤ j ∧ j < u + i
        · rw [if_pos e2, if_pos (by omega)]
        · rw [if_neg e2, if_neg (by omega)]
  · refine W_false (congrArg Value.bool (decide_eq_false (by omega))) ?_
    refine W_exit ?_
    have his : i = sec := by omega
    subst his
    refine W_seq ?_
    refine W_region rfl ?_
    refine L_val rfl (x_move (by conv => lhs; whnf)) ?_
    refine L_val rfl (x_nilCheck rfl) ?_
    refine L_val rfl (x_field fo_62_1 rfl) ?_
    refine L_val rfl (x_load sc3 rfl (cell_at (v := i64 (k : Nat)) hL4 rfl)) ?_
    refine L_val rfl (x_add rfl rfl (wr64 (c := ((k + 1 : Nat) : Int)) (by omega) (by omega) (by omega))) ?_
    refine L_val rfl (x_nilCheck rfl) ?_
    refine L_val rfl (x_field fo_62_1 rfl) ?_
    refine L_store (v := i64 ((k + 1 : Nat) : Int)) sz3 rfl rfl rfl rfl hL4 (by simp) (fun w5 hb5 hc5 => ?_)
    refine L_nil ?_
    have hb5' : w5.heap[bl]? = some (.cells #[ptr bx 0, i64 ((k + 1 : Nat) : Int), i64 (u : Nat)] 62 (0, 0)) := hb5
    refine W_seq ?_
    refine W_region rfl ?_
    refine L_val rfl (x_move (by conv => lhs; whnf)) ?_
    refine L_val rfl (x_move (by conv => lhs; whnf)) ?_
    refine L_val rfl (x_nilCheck rfl) ?_
    refine L_val rfl (x_field fo_62_2 rfl) ?_
    refine L_val rfl (x_load sc3 rfl (cell_at (v := i64 (u : Nat)) hb5' rfl)) ?_
    refine L_val rfl (x_move (by conv => lhs; whnf)) ?_
    refine L_val rfl (x_add rfl rfl (wr64 (c := ((u + i : Nat) : Int)) (by omega) (by omega) (by omega))) ?_
    refine L_val rfl (x_nilCheck rfl) ?_
    refine L_val rfl (x_field fo_62_2 rfl) ?_
    refine L_store (v := i64 ((u + i : Nat) : Int)) sz3 rfl rfl rfl rfl hb5' (by simp) (fun w6 hb6 hc6 => ?_)
    refine L_nil ?_
    refine W_seq ?_
    refine W_region rfl ?_
    refine L_val rfl (x_assign (by conv => lhs; whnf)) ?_
    refine L_nil ?_
    refine W_ret ?_
    have hc36 : Chg [br, bl] w3 w6 := ((hc4.mono (by simp)).same (hc5.mono (by simp))).same (hc6.mono (by simp))
    exact res1 rfl rfl ⟨(hR.chg hc5 (by simp; omega) (by simp; omega)).chg hc6 (by simp; omega) (by simp; omega), hb6, (hC3.mono (by simp)).same hc36⟩
end
end Go.Proofs.Ytinoebjhcmeppaa
