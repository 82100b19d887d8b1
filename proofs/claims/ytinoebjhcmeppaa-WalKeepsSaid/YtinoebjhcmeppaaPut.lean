/- The walk of the program's (*wal.Log).Put. -/
import Derived.Test.YtinoebjhcmeppaaRng
import Derived.Test.YtinoebjhcmeppaaChunk
namespace Go.Proofs.Ytinoebjhcmeppaa
open E Sha
set_option maxRecDepth 100000
set_option maxHeartbeats 4000000

/-- The bytes of a record: its front and itself. -/
def recB (ys : List Int) (k : Int) : List Int := nb ys.length 4 ++ sumB ys k ++ ys
theorem sumB_len (ys : List Int) (k : Int) : (sumB ys k).length = 8 := by simp [sumB, sha_len]
theorem recB_len (ys : List Int) (k : Int) : (recB ys k).length = ys.length + 12 := by simp [recB, nb_len, sumB_len]; omega
/-- A disk's dirty sectors behind some pieces of bytes. -/
def putD (D : Nat → Option (List Int)) (B : List Int) (u m : Nat) (i : Nat) : Option (List Int) :=
  if u ≤ i ∧ i < u + m then some (padS ((B.drop (64 * (i - u))).take 64)) else D i

/-- The piece of number j. -/
def piece (B : List Int) (j : Nat) : List Int := (B.drop (64 * j)).take 64
/-- A disk's dirty sectors behind these pieces. -/
def putP (D : Nat → Option (List Int)) (B : List Int) (u : Nat) (pre : List Nat) (i : Nat) : Option (List Int) :=
  if u ≤ i ∧ i < u + pre.length then some (padS (piece B (pre.getD (i - u) 0))) else D i
theorem putP_range (D : Nat → Option (List Int)) (B : List Int) (u m : Nat) (i : Nat) : putP D B u (List.range m) i = putD D B u m i := by
  unfold putP putD piece
  rw [List.length_range]
  by_cases e : u ≤ i ∧ i < u + m
  · rw [if_pos e, if_pos e]
    have : (List.range m).getD (i - u) 0 = i - u := by simp [List.getD_eq_getElem?_getD, List.getElem?_range (show i - u < m by omega)]
    rw [this]
  · rw [if_neg e, if_neg e]
theorem putP_add (D : Nat → Option (List Int)) (B : List Int) (u : Nat) (pre : List Nat) (j i : Nat) : (if i = u + pre.length then some (padS (piece B j)) else putP D B u pre i) = putP D B u (pre ++ [j]) i := by
  unfold putP
  by_cases e : i = u + pre.length
  · subst e
    rw [if_pos rfl, if_pos (by simp)]
    simp
  · rw [if_neg e]
    by_cases e2 : u ≤ i ∧ i < u + pre.length
    · rw [if_pos e2, if_pos (by simp; omega)]
      have : (pre ++ [j]).getD (i - u) 0 = pre.getD (i - u) 0 := by simp [List.getD_eq_getElem?_getD, List.getElem?_append_left (show i - u < pre.length by omega)]
      rw [this]
    · rw [if_neg e2, if_neg (by simp; omega)]
theorem piece_bt {w : World} {a : Option Addr} {cap : Nat} {B : List Int} (h : Bt w (.slice a B.length cap) B) (j : Nat) : Bt w (pieceV a B.length j) (piece B j) := by
  have hpl : (piece B j).length = min 64 (B.length - 64 * j) := by simp [piece]
  have hl := h.lens
  refine ⟨_, _, by rw [List.length_map, hpl]; rfl, by rw [List.length_map, hpl]; exact Nat.le_refl _, Nat.le_trans (Nat.min_le_left _ _) (by decide), fun t v hv => ?_⟩
  have ht := (List.getElem?_eq_some_iff.1 hv).1
  rw [List.length_map, hpl] at ht
  obtain ⟨b, o, cap', hs, _, _, hc⟩ := h.some (by omega)
  simp only [Value.slice.injEq] at hs
  obtain ⟨rfl, -, -⟩ := hs
  refine ⟨b, o + 64 * j * 1, by simp [addr_add], ?_⟩
  rw [hc (64 * j + t) _ (by omega) (by omega), ← hv]
  simp [piece, List.getElem?_take, List.getD_eq_getElem?_getD, show t < 64 by omega, List.getElem?_eq_getElem (show 64 * j + t < B.length by omega)]
theorem Chg.putObj (w : World) (r : Nat) (o : Obj) : Chg [r] w (w.putObj r o) := Chg.setObj w r o

section
variable {w : World} {bd bs bm n : Nat} {S : Nat → List Int} {D : Nat → Option (List Int)}

/-- What Put leaves where it puts a record. -/
structure PutOk (w w' : World) (bd bs bm bl n : Nat) (S : Nat → List Int) (D : Nat → Option (List Int)) (k u : Nat) (ys : List Int) : Prop where
  dk : Dk w' bd bs bm n S (putD D (recB ys k) u ((ys.length + 75) / 64))
  log : Lg w' bl bd (k + 1) (u + (ys.length + 75) / 64)
  chg : Chg [bm, bl] w w'

theorem f12_put (h : Dk w bd bs bm n S D) {bl k u : Nat} (hL : Lg w bl bd k u) {x : Value} {ys : List Int} (hx : Bt w x ys) (hlen : ys.length ≤ 4294967296) (hn : n ≤ 4096) (hk : k ≤ 4096) (hu : u ≤ n) :
    Calls Try.prog 12 #[ptr bl 0, x] w (Rv fun v w' =>
      (if ys.length < 1 ∨ 20000 < ys.length then v = i64 1 ∧ Chg [] w w'
       else if n - u < (ys.length + 75) / 64 then v = i64 5 ∧ Chg [] w w'
       else v = i64 0 ∧ PutOk w w' bd bs bm bl n S D k u ys)) := by
  obtain ⟨ax, capx, rfl⟩ := hx.is
  have hlt := h.lt
  have hltl : bl < w.heap.size := lt_of_at hL
  refine calls_marks (args := [ptr bl 0, .slice ax ys.length capx]) Try.func12 rfl Try.ntmps12 rfl ?_
  refine WQ_seq ?_
  refine Wf_region rfl rfl ?_
  refine L_box rfl (by conv => lhs; whnf) (fun w1 hb1 hc1 hs1 => ?_)
  refine L_val rfl (x_assign (by conv => lhs; whnf)) ?_
  refine L_nil ?_
  have h1 := h.chg0 hc1
  have hL1 : Lg w1 bl bd k u := hc1.at hL (by simp)
  have hx1 := hx.chg0 hc1
  refine WQ_seq ?_
  refine Wf_block ?_
  refine Wf_seq ?_
  refine Wf_region rfl rfl ?_
  refine L_val rfl (x_load sc28 rfl (cell_at (v := ptr bl 0) hb1 rfl)) ?_
  refine L_val rfl (x_eqlNil pt28 rfl rfl) ?_
  refine L_val rfl (x_move (by conv => lhs; whnf)) ?_
  refine L_val rfl (x_move (by conv => lhs; whnf)) ?_
  refine L_val rfl (x_len el37 rfl) ?_
  by_cases h1len : ys.length < 1
  · refine L_val rfl (x_lss (r := true) rfl rfl (decide_eq_true (by omega))) ?_
    refine L_val rfl (x_pick_f rfl (by conv => lhs; whnf)) ?_
    refine L_val rfl (x_move (by conv => lhs; whnf)) ?_
    refine L_no rfl ?_
    refine L_no rfl ?_
    refine L_no rfl ?_
    refine L_val rfl (x_pick_t rfl (by conv => lhs; whnf)) ?_
    refine L_val rfl (x_assign (by conv => lhs; whnf)) ?_
    refine L_nil ?_
    refine Wf_true rfl ?_
    refine Wf_seq ?_
    refine Wf_region rfl rfl ?_
    refine L_val rfl (x_assign (by conv => lhs; whnf)) ?_
    refine L_nil ?_
    refine Wf_ret ?_
    intro a ha hfa
    refine leaves_plain ha (hfa ▸ res1 (v := i64 1) rfl rfl ?_)
    rw [if_pos (.inl h1len)]
    exact ⟨rfl, hc1⟩
  refine L_val rfl (x_lss (r := false) rfl rfl (decide_eq_false (by omega))) ?_
  refine L_val rfl (x_pick_f rfl (by conv => lhs; whnf)) ?_
  refine L_val rfl (x_move (by conv => lhs; whnf)) ?_
  refine L_val rfl (x_move (by conv => lhs; whnf)) ?_
  refine L_val rfl (x_len el37 rfl) ?_
  by_cases h2len : 20000 < ys.length
  · refine L_val rfl (x_gtr (r := true) rfl rfl (decide_eq_true (by omega))) ?_
    refine L_val rfl (x_pick_f rfl (by conv => lhs; whnf)) ?_
    refine L_val rfl (x_assign (by conv => lhs; whnf)) ?_
    refine L_nil ?_
    refine Wf_true rfl ?_
    refine Wf_seq ?_
    refine Wf_region rfl rfl ?_
    refine L_val rfl (x_assign (by conv => lhs; whnf)) ?_
    refine L_nil ?_
    refine Wf_ret ?_
    intro a ha hfa
    refine leaves_plain ha (hfa ▸ res1 (v := i64 1) rfl rfl ?_)
    rw [if_pos (.inr h2len)]
    exact ⟨rfl, hc1⟩
  refine L_val rfl (x_gtr (r := false) rfl rfl (decide_eq_false (by omega))) ?_
  refine L_val rfl (x_pick_f rfl (by conv => lhs; whnf)) ?_
  refine L_val rfl (x_assign (by conv => lhs; whnf)) ?_
  refine L_nil ?_
  refine Wf_false rfl ?_
  refine Wf_seq ?_
  refine Wf_still mixed (by kernel_rfl) rfl rfl ?_
  refine L_val rfl (x_move (by conv => lhs; whnf)) ?_
  refine L_enterQ rfl (x_call ok22) (f22_sectors (hx1.chg0 (Chg.drew _ _)) (by omega)) ?_
  refine L_val rfl (x_load sc28 rfl (cell_at (v := ptr bl 0) hb1 rfl)) ?_
  refine L_val rfl (x_nilCheck rfl) ?_
  refine L_val rfl (x_field fo_50_0 rfl) ?_
  refine L_val rfl (x_load sc24 rfl (cell_at (v := ptr bd 0) hL1 rfl)) ?_
  refine L_enterQ rfl (x_call ok23) (f23_len (h1.chg0 (Chg.drew _ _))) ?_
  refine L_val rfl (x_load sc28 rfl (cell_at (v := ptr bl 0) hb1 rfl)) ?_
  refine L_val rfl (x_nilCheck rfl) ?_
  refine L_val rfl (x_field fo_50_2 rfl) ?_
  refine L_val rfl (x_load sc3 rfl (cell_at (v := i64 (u : Nat)) hL1 rfl)) ?_
  refine L_val rfl (x_sub rfl rfl (wr64 (c := ((n - u : Nat) : Int)) (by omega) (by omega) (by omega))) ?_
  refine L_val rfl (x_gtr rfl rfl rfl) ?_
  refine L_val rfl (x_assign (by conv => lhs; whnf)) ?_
  refine L_nil ?_
  by_cases h3 : n - u < (ys.length + 75) / 64
  · refine Wf_true (congrArg Value.bool (decide_eq_true (by omega))) ?_
    refine Wf_seq ?_
    refine Wf_region rfl rfl ?_
    refine L_val rfl (x_assign (by conv => lhs; whnf)) ?_
    refine L_nil ?_
    refine Wf_ret ?_
    intro a ha hfa
    refine leaves_plain ha (hfa ▸ res1 (v := i64 5) rfl rfl ?_)
    rw [if_neg (by omega), if_pos h3]
    exact ⟨rfl, hc1.d⟩
  refine Wf_false (congrArg Value.bool (decide_eq_false (by omega))) ?_
  refine Wf_skip ?_
  generalize hw1d : w1.drew = w1d
  have hc1d : Chg [] w w1d := by subst hw1d; exact hc1.d
  have hb1d : w1d.heap[w.heap.size]? = some (.cells #[ptr bl 0] 28 (0, 0)) := by subst hw1d; exact hb1
  refine WQ_seq ?_
  refine Wf_region rfl rfl ?_
  refine L_alloc zero71 rfl (fun w2 hb2 hc2 hs2 => ?_)
  refine L_nil ?_
  have hW2 : Wr w2 w1d.heap.size w1d.heap.size [] := ⟨Nat.le_refl _, _, hb2, World.ownsRow_nil _ _ _ _⟩
  have hc02 : Chg [] w w2 := hc1d.same hc2
  refine WQ_seq ?_
  refine Wf_region rfl rfl ?_
  refine L_val rfl (x_move (by conv => lhs; whnf)) ?_
  refine L_val rfl (x_len el37 rfl) ?_
  refine L_val rfl (x_conv kd3 kd73 rfl (wru64 (c := (ys.length : Int)) (by omega) (by omega) (by omega))) ?_
  refine L_call rfl (x_call ok33) (f33_num hW2 (by omega) (by decide)) (fun v w3 ⟨hW3, hu3⟩ => ?_)
  refine L_nil ?_
  have hsw : w.heap.size ≤ w1d.heap.size := hc1d.size
  have hup : ∀ {X Y : World}, Upto w1d.heap.size X Y → Chg [] w X → Chg [] w Y := fun {X Y} hu hc => ⟨hu.os.trans hc.os, hu.tape.trans hc.tape, hu.output.trans hc.output, Nat.le_trans hc.size hu.size, fun k' hk' _ => (hu.block k' (hc.lt hk') (by omega)).trans (hc.block k' hk' (by simp))⟩
  have hc03 := hup hu3 hc02
  have hboxlt : w.heap.size < w1d.heap.size := lt_of_at hb1d
  have hbx3 : w3.heap[w.heap.size]? = some (.cells #[ptr bl 0] 28 (0, 0)) := hu3.at (hc2.at hb1d (by simp)) hboxlt
  refine WQ_seq ?_
  refine Wf_region rfl rfl ?_
  refine L_val rfl (x_move (by conv => lhs; whnf)) ?_
  refine L_val rfl (x_load sc28 rfl (cell_at (v := ptr bl 0) hbx3 rfl)) ?_
  refine L_val rfl (x_nilCheck rfl) ?_
  refine L_val rfl (x_field fo_50_1 rfl) ?_
  refine L_val rfl (x_load sc3 rfl (cell_at (v := i64 (k : Nat)) (hc03.at hL (by simp)) rfl)) ?_
  refine L_call rfl (x_call ok35) (f35_sum (hx.chg0 hc03) (by omega) (by omega)) (fun vs w4 ⟨hBs, hos, hc4⟩ => ?_)
  have hW4 := hW3.chg hc4 (by simp)
  refine L_call rfl (x_call ok34) (f34_raw hW4 hBs (by have := hu3.size; have := hc4.size; omega) (by simp [nb_len, sumB_len])) (fun v w5 ⟨hW5, hu5⟩ => ?_)
  refine L_nil ?_
  have hc05 := hup hu5 (hc03.same hc4)
  refine WQ_seq ?_
  refine Wf_region rfl rfl ?_
  refine L_val rfl (x_move (by conv => lhs; whnf)) ?_
  refine L_call rfl (x_call ok34) (f34_raw hW5 (hx.chg0 hc05) (by have := hu3.size; have := hc4.size; have := hu5.size; omega) (by simp [nb_len, sumB_len]; omega)) (fun v w6 ⟨hW6, hu6⟩ => ?_)
  refine L_nil ?_
  have hc06 := hup hu6 hc05
  have hB : ([] ++ nb (ys.length : Int) 4 ++ sumB ys k ++ ys) = recB ys k := by simp [recB]
  rw [hB] at hW6
  have hbl := recB_len ys k
  have hbx6 : w6.heap[w.heap.size]? = some (.cells #[ptr bl 0] 28 (0, 0)) := hu6.at (hu5.at (hc4.at hbx3 (by simp)) hboxlt) hboxlt
  refine WQ_outer ?_
  refine WQ_seq ?_
  refine Wf_region rfl rfl ?_
  refine L_call rfl (x_call ok37) (f37_bytes hW6 (by omega)) (fun vB w7 ⟨hoB, hc7⟩ => ?_)
  obtain ⟨aB, capB, rfl⟩ := own_slice hoB
  have hlB := hoB.bt.lens
  refine L_call rfl (x_call ok36) f36_chunk (fun vC w8 ⟨b2, b3, hvC, hb2s, hb3s, hb2C, hb3C, hc8⟩ => ?_)
  subst hvC
  refine L_nil ?_
  have hc08 : Chg [] w w8 := (hc06.same hc7).same hc8
  have hbx8 : w8.heap[w.heap.size]? = some (.cells #[ptr bl 0] 28 (0, 0)) := hc8.at (hc7.at hbx6 (by simp)) (by simp)
  have hBB := hoB.bt.chg0 hc8
  have h8 := h.chg0 hc08
  have hL8 : Lg w8 bl bd k u := hc08.at hL (by simp)
  have hb2l := lt_of_at hb2C
  have hb3l := lt_of_at hb3C
  have hbxl := lt_of_at hbx8
  have hs78 : w.heap.size < w7.heap.size := Nat.lt_of_lt_of_le (lt_of_at hbx6) hc7.size
  have hs68 := hc06.size
  have hs7 := hc7.size
  have hs8 := hc8.size
  have hoBl : ∀ b, (Value.slice aB (recB ys k).length capB).ownBlock = some b → w.heap.size < b ∧ b < w7.heap.size := fun b hb => by
    have h9 := hoB.lt b hb
    have h10 := lt_of_at hbx6
    omega
  have hltl8 : bl < w8.heap.size := by omega
  have hK : ((recB ys k).length + 63) / 64 = (ys.length + 75) / 64 := by rw [hbl]
  refine WQ_range rfl ok52 rfl rfl (f52_seq hb2C hb3C hlB.2.1 (by omega)) (fun hA hB' => ⟨hB'.1.trans hA.1, hB'.2.trans hA.2⟩) (fun W l o o' hl _ _ _ => ⟨World.putObj_heap_other (by omega), World.putObj_heap_other (by omega)⟩)
    (fun pre W => Dk W bd bs bm n S (putP D (recB ys k) u pre) ∧ Lg W bl bd k (u + pre.length) ∧ Chg [bm, bl] w8 W) ?_ ?_ ?_ ?_
  ·
    intro pre W W' row hI hg hr
    obtain ⟨hD, hLg, hC⟩ := hI
    have hC' : ∀ b o, b < w8.heap.size → W.heap[b]? = some o → W'.heap[b]? = some o := fun b o hb ho => by
      rw [hg.block b (lt_of_at ho) (fun e => by have := (hr b e.symm).1; omega)]; exact ho
    refine ⟨?_, hC' _ _ hltl8 hLg, ⟨hg.os.trans hC.os, hg.tape.trans hC.tape, hg.output.trans hC.output, Nat.le_trans hC.size hg.size, fun b hb hn => ?_⟩⟩
    · obtain ⟨hd, ⟨syn, hl, hs, hS0⟩, ⟨es, clock, hgd, hm, he, hD0⟩⟩ := hD
      exact ⟨hC' _ _ (by omega) hd, ⟨syn, hl, hC' _ _ (by omega) hs, hS0⟩, ⟨es, clock, hgd, hC' _ _ (by omega) hm, he, hD0⟩⟩
    · rw [hg.block b (hC.lt hb) (fun e => by have := (hr b e.symm).1; omega)]
      exact hC.block b hb hn
  · refine ⟨h8.same (fun _ _ => rfl) (fun i => ?_), by simpa using hL8, Chg.refl _ _⟩
    unfold putP
    rw [if_neg (by simp)]
  ·
    intro l pre j W hI hlenp
    obtain ⟨hD, hLg, hC⟩ := hI
    have hbxW : W.heap[w.heap.size]? = some (.cells #[ptr bl 0] 28 (0, 0)) := hC.at hbx8 (by simp; omega)
    have hBW : Bt W (.slice aB (recB ys k).length capB) (recB ys k) := hBB.chg hC (fun b hb => by have := hoBl b hb; simp; omega)
    have hpc := piece_bt hBW j
    have hpl : (piece (recB ys k) j).length ≤ 64 := by simp [piece]; omega
    refine Wf_block ?_
    refine Wf_seq ?_
    refine Wf_tail 9 mixed (by kernel_rfl) rfl rfl ?_
    refine L_val rfl (x_load sc28 rfl (cell_at (v := ptr bl 0) hbxW rfl)) ?_
    refine L_val rfl (x_nilCheck rfl) ?_
    refine L_val rfl (x_field fo_50_0 rfl) ?_
    refine L_val rfl (x_load sc24 rfl (cell_at (v := ptr bd 0) hLg rfl)) ?_
    refine L_val rfl (x_load sc28 rfl (cell_at (v := ptr bl 0) hbxW rfl)) ?_
    refine L_val rfl (x_nilCheck rfl) ?_
    refine L_val rfl (x_field fo_50_2 rfl) ?_
    refine L_val rfl (x_load sc3 rfl (cell_at (v := i64 ((u + pre.length : Nat) : Int)) hLg rfl)) ?_
    refine L_val rfl (x_move (v := pieceV aB (recB ys k).length j) rfl) ?_
    refine L_nil ?_
    refine L_call rfl (x_call ok27) (f27_write (hD.chg0 (Chg.drew _ _)) (hpc.chg0 (Chg.drew _ _)) (by omega) hpl) (fun v W1 ⟨_, hD1, hC1⟩ => ?_)
    refine L_nil ?_
    have hCW1 : Chg [bm, bl] W W1 := ((Chg.drew [] W).mono (by simp)).same (hC1.mono (by simp))
    have hbxW1 : W1.heap[w.heap.size]? = some (.cells #[ptr bl 0] 28 (0, 0)) := hCW1.at hbxW (by simp; omega)
    have hblm : bl ≠ bm := by
      intro e; subst e
      obtain ⟨es, clock, _, hm, _⟩ := hD.dirty
      have h9 : W.heap[bl]? = _ := hLg
      rw [h9] at hm; simp [mobj] at hm
    have hLg1 : Lg W1 bl bd k (u + pre.length) := hC1.at (hLg : W.drew.heap[bl]? = _) (by simpa using hblm)
    refine Wf_region rfl rfl ?_
    refine L_val rfl (x_load sc28 rfl (cell_at (v := ptr bl 0) hbxW1 rfl)) ?_
    refine L_val rfl (x_nilCheck rfl) ?_
    refine L_val rfl (x_field fo_50_2 rfl) ?_
    refine L_val rfl (x_load sc3 rfl (cell_at (v := i64 ((u + pre.length : Nat) : Int)) hLg1 rfl)) ?_
    refine L_val rfl (x_add rfl rfl (wr64 (c := ((u + (pre.length + 1) : Nat) : Int)) (by omega) (by omega) (by omega))) ?_
    refine L_val rfl (x_nilCheck rfl) ?_
    refine L_val rfl (x_field fo_50_2 rfl) ?_
    refine L_store sz3 rfl rfl (v := i64 ((u + (pre.length + 1) : Nat) : Int)) rfl rfl hLg1 (by simp) (fun W2 hb2' hC2 => ?_)
    refine L_nil ?_
    have hCW2 : Chg [bm, bl] W W2 := hCW1.same (hC2.mono (by simp))
    have hne : bl ≠ bd ∧ bl ≠ bs := by
      refine ⟨fun e => ?_, fun e => ?_⟩
      · subst e; have h9 : W.heap[bl]? = _ := hLg; have h10 := hD.desc; rw [h9] at h10; simp at h10
      · subst e; obtain ⟨syn, _, hs, _⟩ := hD.syn; have h9 : W.heap[bl]? = _ := hLg; rw [h9] at hs; simp at hs
    refine ⟨⟨hCW2.size, fun kk o hk ho _ => hCW2.at ho (by simp; omega)⟩, ⟨?_, ?_⟩, ?_, ?_, hC.same hCW2⟩
    · exact hCW2.block b2 (hC.lt hb2l) (by simp; omega)
    · exact hCW2.block b3 (hC.lt hb3l) (by simp; omega)
    · refine (hD1.chg hC2 (by simp; omega) (by simp; omega) (by simpa using Ne.symm hblm)).same (fun _ _ => rfl) (fun i => putP_add D (recB ys k) u pre j i)
    · unfold Lg
      rw [hb2', List.length_append]
      rfl
  ·
    intro Dm xs W hDm hxs hI hDd a ha hfa
    subst hxs
    obtain ⟨hD, hLg, hC⟩ := hI
    rw [List.length_range, hK] at hLg
    have hbxW : W.heap[w.heap.size]? = some (.cells #[ptr bl 0] 28 (0, 0)) := hC.at hbx8 (by simp; omega)
    refine WQ_of (ds := [markOf Dm]) (n := 74) (Wf_seq ?_) a ha hfa
    refine Wf_region rfl rfl ?_
    refine L_val rfl (x_load sc28 rfl (cell_at (v := ptr bl 0) hbxW rfl)) ?_
    refine L_val rfl (x_nilCheck rfl) ?_
    refine L_val rfl (x_field fo_50_1 rfl) ?_
    refine L_val rfl (x_load sc3 rfl (cell_at (v := i64 (k : Nat)) hLg rfl)) ?_
    refine L_val rfl (x_add rfl rfl (wr64 (c := ((k + 1 : Nat) : Int)) (by omega) (by omega) (by omega))) ?_
    refine L_val rfl (x_nilCheck rfl) ?_
    refine L_val rfl (x_field fo_50_1 rfl) ?_
    refine L_store sz3 rfl rfl (v := i64 ((k + 1 : Nat) : Int)) rfl rfl hLg (by simp) (fun W2 hb2' hC2 => ?_)
    refine L_nil ?_
    refine Wf_seq ?_
    refine Wf_region rfl rfl ?_
    refine L_val rfl (x_assign (by conv => lhs; whnf)) ?_
    refine L_nil ?_
    refine Wf_ret ?_
    intro a2 ha2 hfa2
    have hD2 : W2.heap[Dm]? = some (.deferred (some [])) := hC2.at hDd (by simp; omega)
    have hne : bl ≠ bd ∧ bl ≠ bs ∧ bl ≠ bm := by
      refine ⟨fun e => ?_, fun e => ?_, fun e => ?_⟩
      · subst e; have h9 : W.heap[bl]? = _ := hLg; have h10 := hD.desc; rw [h9] at h10; simp at h10
      · subst e; obtain ⟨syn, _, hs, _⟩ := hD.syn; have h9 : W.heap[bl]? = _ := hLg; rw [h9] at hs; simp at hs
      · subst e; obtain ⟨es, clock, _, hm, _⟩ := hD.dirty; have h9 : W.heap[bl]? = _ := hLg; rw [h9] at hm; simp [mobj] at hm
    have hP := Chg.putObj W2 Dm (.deferred none)
    refine leaves_mark ha2 ⟨hD2, hfa2 ▸ res1 (v := i64 0) rfl rfl ?_⟩
    rw [if_neg (by omega), if_neg h3]
    refine ⟨rfl, ⟨?_, ?_, ?_⟩⟩
    · refine (((hD.chg hC2 (by simp; omega) (by simp; omega) (by simp; omega)).chg hP (by simp; omega) (by simp; omega) (by simp; omega))).same (fun _ _ => rfl) (fun i => ?_)
      rw [putP_range, hK]
    · unfold Lg
      rw [hP.at hb2' (by simp; omega)]
      rfl
    · exact (((hc08.mono (by simp)).same hC).same (hC2.mono (by simp))).trans hP (by simp; omega)
end
end Go.Proofs.Ytinoebjhcmeppaa
