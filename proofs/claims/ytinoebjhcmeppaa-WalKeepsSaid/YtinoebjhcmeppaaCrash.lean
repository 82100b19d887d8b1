/- The walks of slices.Index, slices.Contains over whole numbers, and of the program's (*disk.Disk).Crash. -/
import Derived.Test.YtinoebjhcmeppaaDirty
namespace Go.Proofs.Ytinoebjhcmeppaa
open E Sha
set_option maxRecDepth 100000
set_option maxHeartbeats 4000000

theorem f53_index {w : World} {x : Value} {zs : List Int} (c : Int) (hx : Rw w x (zs.map i64)) :
    Calls Try.prog 53 #[x, i64 c] w (fun e w' => (∃ r : Int, e = .returned (i64 r) ∧ -1 ≤ r ∧ (0 ≤ r ↔ c ∈ zs)) ∧ w' = w) := by
  obtain ⟨a, cap, rfl⟩ := hx.is
  have hlx := hx.lens
  have hmx : maxLen ≤ 9223372036854775807 := by decide
  refine (calls_W (args := [.slice a zs.length cap, i64 c]) (R := fun v w' => (∃ r : Int, v = i64 r ∧ -1 ≤ r ∧ (0 ≤ r ↔ c ∈ zs)) ∧ w' = w) Try.func53 rfl Try.ntmps53 rfl ?_).mono (fun e w' ⟨v, he, ⟨r, hv, hr⟩, hw⟩ => ⟨⟨r, hv ▸ he, hr⟩, hw⟩)
  refine W_seq ?_
  refine W_region rfl ?_
  refine L_val rfl (x_assign (by conv => lhs; whnf)) ?_
  refine L_nil ?_
  refine W_seq ?_
  refine W_seq ?_
  refine W_region rfl ?_
  refine L_val rfl (x_move (by conv => lhs; whnf)) ?_
  refine L_val rfl (x_len el23 rfl) ?_
  refine L_val rfl (x_move (by conv => lhs; whnf)) ?_
  refine L_nil ?_
  refine W_block ?_
  refine W_loop (fun m f w1 => ∃ i, i ≤ zs.length ∧ m = zs.length - i ∧ Frm f [(0, .slice a zs.length cap), (1, i64 c), (7, i64 (zs.length : Nat)), (8, i64 (i : Nat))] ∧ (∀ j, j < i → at' zs j ≠ c) ∧ w1 = w) zs.length
    ⟨0, by omega, rfl, ⟨rfl, rfl, rfl, rfl, trivial⟩, by omega, rfl⟩ (fun m f w1 hI => ?_)
  obtain ⟨i, hi, rfl, hF, hz, rfl⟩ := hI
  obtain ⟨g, rfl⟩ := hF.eta
  refine W_seq ?_
  refine W_region rfl ?_
  refine L_val rfl (x_lss rfl rfl rfl) ?_
  refine L_nil ?_
  refine W_seq ?_
  by_cases hcond : i < zs.length
  · refine W_true (congrArg Value.bool (decide_eq_true (by omega))) ?_
    refine W_skip ?_
    refine W_seq ?_
    refine W_block ?_
    refine W_seq ?_
    obtain ⟨b, o, cap', hv', _, _, hcx⟩ := hx.some (by omega)
    simp only [Value.slice.injEq] at hv'
    obtain ⟨rfl, -, rfl⟩ := hv'
    refine W_region rfl ?_
    refine L_val rfl (x_move (by conv => lhs; whnf)) ?_
    refine L_val rfl (x_assign (by conv => lhs; whnf)) ?_
    refine L_nil ?_
    refine W_seq ?_
    refine W_region rfl ?_
    refine L_val rfl (x_move (by conv => lhs; whnf)) ?_
    refine L_val rfl (x_move (by conv => lhs; whnf)) ?_
    refine L_val rfl (x_move (by conv => lhs; whnf)) ?_
    refine L_val rfl (x_index el23 (i := i) rfl rfl (by omega)) ?_
    refine L_val rfl (x_load sc3 rfl (hcx i _ (by omega) (by omega))) ?_
    refine L_val rfl (x_eql rfl rfl rfl) ?_
    refine L_nil ?_
    by_cases hz2 : c = at' zs i
    · refine W_true (congrArg Value.bool (decide_eq_true hz2)) ?_
      refine W_seq ?_
      refine W_region rfl ?_
      refine L_val rfl (x_move (by conv => lhs; whnf)) ?_
      refine L_val rfl (x_assign (by conv => lhs; whnf)) ?_
      refine L_nil ?_
      refine W_ret ?_
      refine res1 rfl rfl ⟨⟨(i : Int), rfl, by omega, fun _ => ?_, fun _ => by omega⟩, rfl⟩
      rw [hz2]; simp [at', hcond]
    · refine W_false (congrArg Value.bool (decide_eq_false hz2)) ?_
      refine W_skip ?_
      refine W_region rfl ?_
      refine L_val rfl (x_add rfl rfl (wr64 (c := ((i + 1 : Nat) : Int)) (by omega) (by omega) (by omega))) ?_
      refine L_val rfl (x_move (by conv => lhs; whnf)) ?_
      refine L_nil ?_
      refine ⟨zs.length - (i + 1), by omega, i + 1, by omega, rfl, ⟨rfl, rfl, rfl, rfl, trivial⟩, fun j hj => ?_, rfl⟩
      by_cases e : j = i
      · subst e; exact fun h => hz2 h.symm
      · exact hz j (by omega)
  · refine W_false (congrArg Value.bool (decide_eq_false (by omega))) ?_
    refine W_exit ?_
    refine W_seq ?_
    refine W_region rfl ?_
    refine L_val rfl (x_assign (by conv => lhs; whnf)) ?_
    refine L_nil ?_
    refine W_ret ?_
    refine res1 rfl rfl ⟨⟨-1, rfl, by omega, fun h => by omega, fun hc => ?_⟩, rfl⟩
    obtain ⟨j, hj, rfl⟩ := List.getElem_of_mem hc
    have := hz j (by omega)
    simp [at', hj] at this

theorem f39_contains {w : World} {x : Value} {zs : List Int} (c : Int) (hx : Rw w x (zs.map i64)) :
    Calls Try.prog 39 #[x, i64 c] w (fun e w' => e = .returned (.bool (decide (c ∈ zs))) ∧ w' = w) := by
  refine (calls_W (args := [x, i64 c]) (R := fun v w' => v = .bool (decide (c ∈ zs)) ∧ w' = w) Try.func39 rfl Try.ntmps39 rfl ?_).mono (fun e w' ⟨v, he, hv, hw⟩ => ⟨hv ▸ he, hw⟩)
  refine W_seq ?_
  refine W_region rfl ?_
  refine L_val rfl (x_assign (by conv => lhs; whnf)) ?_
  refine L_nil ?_
  refine W_seq ?_
  refine W_region rfl ?_
  refine L_val rfl (x_move (v := x) rfl) ?_
  refine L_val rfl (x_move (by conv => lhs; whnf)) ?_
  refine L_call (R := fun v w' => (∃ r : Int, v = i64 r ∧ -1 ≤ r ∧ (0 ≤ r ↔ c ∈ zs)) ∧ w' = w) rfl (x_call ok53) ((f53_index c hx).mono (fun e w' ⟨⟨r, he, hr⟩, hw⟩ => ⟨_, he, ⟨r, rfl, hr⟩, hw⟩)) (fun v w1 ⟨⟨r, hv, hr, hiff⟩, hw⟩ => ?_)
  subst hv; subst hw
  refine L_val rfl (x_geq rfl rfl rfl) ?_
  refine L_val rfl (x_assign (by conv => lhs; whnf)) ?_
  refine L_nil ?_
  refine W_ret ?_
  refine res1 rfl rfl ⟨?_, rfl⟩
  by_cases h : 0 ≤ r
  · exact congrArg Value.bool ((decide_eq_true h).trans (decide_eq_true (hiff.1 h)).symm)
  · exact congrArg Value.bool ((decide_eq_false h).trans (decide_eq_false (fun hc => h (hiff.2 hc))).symm)
/-- How many bytes of a torn sector stay. -/
def tornN (m : Int) : Nat := (min (max m 0) 64).toNat
/-- A sector behind a crash. -/
def crS (S : Nat → List Int) (D : Nat → Option (List Int)) (keep : List Int) (torn m : Int) (i : Nat) : List Int :=
  match D i with
  | some s => if (i : Int) ∈ keep then s else if (i : Int) = torn then s.take (tornN m) ++ (S i).drop (tornN m) else S i
  | none => S i
theorem crS_some {S : Nat → List Int} {D : Nat → Option (List Int)} {keep : List Int} {torn m : Int} {i : Nat} {s : List Int} (h : D i = some s) :
    crS S D keep torn m i = if (i : Int) ∈ keep then s else if (i : Int) = torn then s.take (tornN m) ++ (S i).drop (tornN m) else S i := by
  unfold crS; rw [h]
theorem Dk.put {w w' : World} {bd bs bm n : Nat} {S : Nat → List Int} {D : Nat → Option (List Int)} (h : Dk w bd bs bm n S D) {syn s : List Int} {i : Nat} (hl : syn.length = 64 * n) (hS : ∀ i, i < n → secOf syn i = S i) (hs : s.length = 64) (hi : i < n)
    (hb : w'.heap[bs]? = some (.cells (L8 (syn.take (64 * i) ++ s ++ syn.drop (64 * i + 64))) 79 (0, 0))) (hc : Chg [bs] w w') : Dk w' bd bs bm n (fun j => if j = i then s else S j) D := by
  refine ⟨hc.at h.desc (by have := h.ds; simpa using this), ⟨_, by simp [hl, hs]; omega, hb, fun j hj => ?_⟩, ?_⟩
  · rw [secOf_put hl hs hi, ]
    by_cases e : j = i
    · rw [if_pos e, if_pos e]
    · rw [if_neg e, if_neg e]; exact hS j hj
  · obtain ⟨es, clock, hg, hm, he, hD⟩ := h.dirty
    exact ⟨es, clock, hg, hc.at hm (by have := h.sm; simp; omega), he, hD⟩
theorem sec_split {syn : List Int} {n i m : Nat} (hl : syn.length = 64 * n) (hi : i < n) (hm : m ≤ 64) (t : List Int) : syn.take (64 * i) ++ t ++ syn.drop (64 * i + m) = syn.take (64 * i) ++ (t ++ (secOf syn i).drop m) ++ syn.drop (64 * i + 64) := by
  have : syn.drop (64 * i + m) = (secOf syn i).drop m ++ syn.drop (64 * i + 64) := by
    unfold secOf
    have h1 : syn.drop (64 * i) = (syn.drop (64 * i)).take 64 ++ syn.drop (64 * i + 64) := by
      conv => lhs; rw [← List.take_append_drop 64 (syn.drop (64 * i)), List.drop_drop]
    have h2 : syn.drop (64 * i + m) = (syn.drop (64 * i)).drop m := by rw [List.drop_drop]
    rw [h2]
    conv => lhs; rw [h1]
    rw [List.drop_append_of_le_length (by simp [hl]; omega)]
  rw [this]
  simp [List.append_assoc]

theorem rw_chgE {U : List Nat} {w w' : World} {v : Value} {xs : List Value} (h : Rw w v xs) (hc : Chg U w w') (hS : xs ≠ [] → ∀ b, v.ownBlock = some b → b ∉ U) : Rw w' v xs := by
  by_cases e : xs = []
  · subst e
    obtain ⟨a, cap, hv, h1, h2, _⟩ := h
    exact ⟨a, cap, hv, h1, h2, fun j u hu => by simp at hu⟩
  · exact h.chg hc (hS e)
section
variable {w : World} {bd bs bm n : Nat} {S : Nat → List Int} {D : Nat → Option (List Int)}
theorem f14_crash (h : Dk w bd bs bm n S D) (hn : n ≤ 4096) {kv : Value} {keep : List Int} (hk : Rw w kv (keep.map i64)) (hkb : keep ≠ [] → ∀ b, kv.ownBlock = some b → b ≠ bs ∧ b ≠ bm) (torn m : Int) :
    Calls Try.prog 14 #[ptr bd 0, kv, i64 torn, i64 m] w (Rv fun _ w' => Dk w' bd bs bm n (crS S D keep torn m) (fun _ => none) ∧ Chg [bs, bm] w w') := by
  have hlt := h.lt
  have hds := h.ds
  have hdm := h.dm
  have hsm := h.sm
  refine calls_W (args := [ptr bd 0, kv, i64 torn, i64 m]) Try.func14 rfl Try.ntmps14 rfl ?_
  refine W_seq ?_
  refine W_seq ?_
  refine W_region rfl ?_
  refine L_val rfl (x_move (by conv => lhs; whnf)) ?_
  refine L_call rfl (x_call ok17) (f17_dirty h hn) (fun dv w1 ⟨xs, hnd, hxs, hxl, hrow, hdb, hc1⟩ => ?_)
  have hrow' : Rw w1 dv ((xs.map fun i => ((i : Nat) : Int)).map i64) := by
    have : ints xs = (xs.map fun i => ((i : Nat) : Int)).map i64 := by simp [ints]
    rw [← this]; exact hrow
  obtain ⟨da, dcap, rfl⟩ := hrow'.is
  rw [List.length_map] at hrow hrow' hdb ⊢
  refine L_val rfl (x_len el23 rfl) ?_
  refine L_val rfl (x_move (by conv => lhs; whnf)) ?_
  refine L_nil ?_
  refine W_block ?_
  refine W_loop (fun mm f w2 => ∃ j, j ≤ xs.length ∧ mm = xs.length - j ∧ Frm f [(0, ptr bd 0), (1, kv), (2, i64 torn), (3, i64 m), (12, .slice da xs.length dcap), (13, i64 (xs.length : Nat)), (14, i64 (j : Nat))] ∧
      Dk w2 bd bs bm n (fun i => if i ∈ xs.take j then crS S D keep torn m i else S i) D ∧ Chg [bs] w1 w2) xs.length
    ⟨0, by omega, rfl, ⟨rfl, rfl, rfl, rfl, rfl, rfl, rfl, trivial⟩, (h.chg0 hc1).same (fun i hi => by simp) (fun _ => rfl), Chg.refl _ _⟩ (fun mm f w2 hI => ?_)
  obtain ⟨j, hj, rfl, hF, hD2, hc2⟩ := hI
  obtain ⟨g, rfl⟩ := hF.eta
  have hc02 : Chg [bs] w w2 := (hc1.mono (by simp)).same hc2
  refine W_seq ?_
  refine W_region rfl ?_
  refine L_val rfl (x_lss rfl rfl rfl) ?_
  refine L_nil ?_
  refine W_seq ?_
  by_cases hcond : j < xs.length
  · refine W_true (congrArg Value.bool (decide_eq_true (by omega))) ?_
    refine W_skip ?_
    obtain ⟨b, o, cap', hv', _, _, hcx⟩ := hrow'.some (by simp; omega)
    simp only [Value.slice.injEq, List.length_map] at hv'
    obtain ⟨rfl, -, rfl⟩ := hv'
    have hbne : b ≠ bs := by have := hdb b rfl; omega
    have hat : xs[j] ∈ xs := List.getElem_mem hcond
    have hsome := (hxs xs[j]).1 hat
    obtain ⟨s, hs⟩ := Option.isSome_iff_exists.1 hsome
    obtain ⟨han, hsl⟩ := h.lenD hs
    have hcell : w2.cell? ⟨b, o + j * 1, none⟩ = some (i64 ((xs[j] : Nat) : Int)) := by
      have := hc2.cell (hcx j (o + j * 1) (by omega) (by simpa using hcond)) (by simpa using hbne)
      simpa [hcond] using this
    generalize hatq : xs[j] = at0 at *
    have hnotin : at0 ∉ xs.take j := by
      intro hm
      rw [← hatq] at hm
      obtain ⟨t, ht, he⟩ := List.getElem_of_mem hm
      rw [List.getElem_take] at he
      have ht' : t < j := by simp at ht; omega
      have := (List.getElem_inj hnd).1 he
      omega
    have htake : xs.take (j + 1) = xs.take j ++ [at0] := by rw [List.take_add_one, List.getElem?_eq_getElem hcond, hatq]; rfl
    obtain ⟨es, clock, hg, hm2, he2, hDe⟩ := hD2.dirty
    obtain ⟨syn, hl, hs2, hS2⟩ := hD2.syn
    refine W_seq ?_
    refine W_block ?_
    refine W_seq ?_
    refine W_region rfl ?_
    refine L_val rfl (x_index el23 (i := j) rfl rfl hcond) ?_
    refine L_val rfl (x_load sc3 rfl hcell) ?_
    refine L_val rfl (x_assign (by conv => lhs; whnf)) ?_
    refine L_nil ?_
    refine W_seq ?_
    refine W_region rfl ?_
    refine L_val rfl (x_move (by conv => lhs; whnf)) ?_
    refine L_val rfl (x_nilCheck rfl) ?_
    refine L_val rfl (x_field fo_48_1 rfl) ?_
    refine L_val rfl (x_load sc46 rfl (cell_at (v := .map (some bm)) hD2.desc rfl)) ?_
    refine L_val rfl (x_move (by conv => lhs; whnf)) ?_
    refine L_val rfl (x_lookup (v := .agg (L8 s)) mp46 kd3 zero79 rfl rfl hm2 (by rw [hDe, hs]; rfl)) ?_
    refine L_alloc zero79 rfl (fun w3 hb3 hc3 hs3 => ?_)
    refine L_storeAll (cs := L8 s) sz79 rfl rfl rfl (by rw [L8_size]; exact hsl) (L8_one _) hb3 rfl (fun w4 hb4 hc4 => ?_)
    refine L_nil ?_
    have hc24 : Chg [] w2 w4 := hc3.trans hc4 (by simp)
    have hD4 := hD2.chg0 hc24
    have hs4 := hc24.at hs2 (by simp)
    have hd4 := hc24.at hD2.desc (by simp)
    have hbsl : bs < w2.heap.size := lt_of_at hs2
    have hk4 : Rw w4 kv (keep.map i64) := (rw_chgE hk hc02 (fun hne b hb => by have := hkb (fun e => hne (by rw [e]; rfl)) b hb; simp; omega)).chg0 hc24
    have step : ∀ (w5 : World) (sec : List Int), sec.length = 64 → sec = crS S D keep torn m at0 → w5.heap[bs]? = some (.cells (L8 (syn.take (64 * at0) ++ sec ++ syn.drop (64 * at0 + 64))) 79 (0, 0)) → Chg [bs] w4.drew w5 →
        Dk w5 bd bs bm n (fun i => if i ∈ xs.take (j + 1) then crS S D keep torn m i else S i) D ∧ Chg [bs] w1 w5 := fun w5 sec hsec hcr hb5 hc5 => by
      refine ⟨((hD4.chg0 (Chg.drew [] w4)).put hl hS2 hsec han hb5 hc5).same (fun i hi => ?_) (fun _ => rfl), ((hc2.same (hc24.mono (by simp))).d).same hc5⟩
      rw [htake]
      by_cases e : i = at0
      · subst e; simp [hcr]
      · simp [e]
    have stay : crS S D keep torn m at0 = S at0 → Dk w4 bd bs bm n (fun i => if i ∈ xs.take (j + 1) then crS S D keep torn m i else S i) D ∧ Chg [bs] w1 w4 := fun hcr => by
      refine ⟨hD4.same (fun i hi => ?_) (fun _ => rfl), hc2.same (hc24.mono (by simp))⟩
      rw [htake]
      by_cases e : i = at0
      · subst e; simp [hnotin, hcr]
      · simp [e]
    have hS2a : secOf syn at0 = S at0 := by have := hS2 at0 han; rwa [if_neg hnotin] at this
    refine W_block ?_
    refine W_seq ?_
    refine W_region rfl ?_
    refine L_val rfl (x_move (v := kv) rfl) ?_
    refine L_val rfl (x_move (by conv => lhs; whnf)) ?_
    refine L_enterQ rfl (x_call ok39) (f39_contains _ hk4) ?_
    refine L_val rfl (x_assign (by conv => lhs; whnf)) ?_
    refine L_nil ?_
    by_cases hin : (at0 : Int) ∈ keep
    · refine W_true (congrArg Value.bool (decide_eq_true hin)) ?_
      refine W_tail 7 mixed (by kernel_rfl) rfl ?_
      refine L_val rfl (x_move (by conv => lhs; whnf)) ?_
      refine L_val rfl (x_nilCheck rfl) ?_
      refine L_val rfl (x_field fo_48_0 rfl) ?_
      refine L_val rfl (x_load sc45 rfl (cell_at (v := .slice (some ⟨bs, 0, none⟩) n n) hd4 rfl)) ?_
      refine L_val rfl (x_move (by conv => lhs; whnf)) ?_
      refine L_val rfl (x_loadRow ag79 rfl hb4 (by rw [L8_size]; exact hsl)) ?_
      refine L_val rfl (x_index el45 (i := at0) rfl rfl han) ?_
      refine L_nil ?_
      refine L_storeAgg (cs := L8 s) sz79 rfl rfl rfl (by rw [L8_size]; exact hsl) (L8_one _) (hs4 : w4.drew.heap[bs]? = _) (by rw [L8_size, hl]; omega) (fun w5 hb5 hc5 => ?_)
      refine L_nil ?_
      rw [L8_splice, show 0 + at0 * 64 = 64 * at0 by omega] at hb5
      have hst := step w5 s hsl (by rw [crS_some hs, if_pos hin]) hb5 hc5
      refine W_region rfl ?_
      refine L_val rfl (x_add rfl rfl (wr64 (c := ((j + 1 : Nat) : Int)) (by omega) (by omega) (by omega))) ?_
      refine L_val rfl (x_move (by conv => lhs; whnf)) ?_
      refine L_nil ?_
      exact ⟨xs.length - (j + 1), by omega, j + 1, by omega, rfl, ⟨rfl, rfl, rfl, rfl, rfl, rfl, rfl, trivial⟩, hst.1, hst.2⟩
    · refine W_false (congrArg Value.bool (decide_eq_false hin)) ?_
      refine W_seq ?_
      refine W_region rfl ?_
      refine L_val rfl (x_move (by conv => lhs; whnf)) ?_
      refine L_val rfl (x_move (by conv => lhs; whnf)) ?_
      refine L_val rfl (x_eql rfl rfl rfl) ?_
      refine L_val rfl (x_assign (by conv => lhs; whnf)) ?_
      refine L_nil ?_
      by_cases htn : (at0 : Int) = torn
      · refine W_true (congrArg Value.bool (decide_eq_true htn)) ?_
        refine W_tail 11 mixed (by kernel_rfl) rfl ?_
        refine L_val rfl (x_move (by conv => lhs; whnf)) ?_
        refine L_val rfl (x_nilCheck rfl) ?_
        refine L_val rfl (x_field fo_48_0 rfl) ?_
        refine L_val rfl (x_load sc45 rfl (cell_at (v := .slice (some ⟨bs, 0, none⟩) n n) hd4 rfl)) ?_
        refine L_val rfl (x_move (by conv => lhs; whnf)) ?_
        refine L_val rfl (x_index el45 (i := at0) rfl rfl han) ?_
        refine L_val rfl (x_sliceArr ar79 rfl) ?_
        refine L_val rfl (x_move (by conv => lhs; whnf)) ?_
        refine L_val rfl (x_max rfl rfl) ?_
        refine L_val rfl (x_min rfl rfl) ?_
        have htn64 : tornN m ≤ 64 := by unfold tornN; omega
        have hmm : (if (64 : Int) < (if (0 : Int) > m then 0 else m) then 64 else (if (0 : Int) > m then 0 else m)) = ((tornN m : Nat) : Int) := by
          unfold tornN
          by_cases e1 : (0 : Int) > m
          · rw [if_pos e1]; omega
          · rw [if_neg e1]
            by_cases e2 : (64 : Int) < m
            · rw [if_pos e2]; omega
            · rw [if_neg e2]; omega
        rw [hmm]
        refine L_val rfl (x_sliceArrH ar79 (h := tornN m) rfl rfl htn64) ?_
        refine L_nil ?_
        have hbs4 : Bt w4.drew (.slice (some ⟨w2.heap.size, 0, none⟩) (tornN m) 64) (s.take (tornN m)) := ((L8_bt hb4 hsl).chg0 (Chg.drew _ _)).take (l := tornN m) htn64
        refine L_copy el37 rfl rfl rfl (hs4 : w4.drew.heap[bs]? = _) hbs4 (by rw [L8_size, hl]; omega) (b8 _) (fun w5 hb5 hc5 => ?_)
        refine L_nil ?_
        have htl : (s.take (tornN m)).length = tornN m := by simp [hsl]; omega
        have hb5' : w5.heap[bs]? = some (.cells (L8 (syn.take (64 * at0) ++ (s.take (tornN m) ++ (secOf syn at0).drop (tornN m)) ++ syn.drop (64 * at0 + 64))) 79 (0, 0)) := by
          rw [hb5, List.length_map, htl, show min (tornN m) 64 = tornN m by omega, List.take_of_length_le (l := (s.take (tornN m)).map u8) (by rw [List.length_map, htl]; exact htn64), show 0 + at0 * 64 = 64 * at0 by omega, ← sec_split hl han htn64]
          have := L8_splice syn (s.take (tornN m)) (64 * at0) (64 * at0 + tornN m)
          rw [← this]
          simp [L8]
        have hst := step w5 _ (by rw [List.length_append, htl, List.length_drop, secOf_len hl han]; omega) (by rw [crS_some hs, if_neg hin, if_pos htn, hS2a]) hb5' hc5
        refine W_region rfl ?_
        refine L_val rfl (x_add rfl rfl (wr64 (c := ((j + 1 : Nat) : Int)) (by omega) (by omega) (by omega))) ?_
        refine L_val rfl (x_move (by conv => lhs; whnf)) ?_
        refine L_nil ?_
        exact ⟨xs.length - (j + 1), by omega, j + 1, by omega, rfl, ⟨rfl, rfl, rfl, rfl, rfl, rfl, rfl, trivial⟩, hst.1, hst.2⟩
      · refine W_false (congrArg Value.bool (decide_eq_false htn)) ?_
        refine W_skip ?_
        have hst := stay (by rw [crS_some hs, if_neg hin, if_neg htn])
        refine W_region rfl ?_
        refine L_val rfl (x_add rfl rfl (wr64 (c := ((j + 1 : Nat) : Int)) (by omega) (by omega) (by omega))) ?_
        refine L_val rfl (x_move (by conv => lhs; whnf)) ?_
        refine L_nil ?_
        exact ⟨xs.length - (j + 1), by omega, j + 1, by omega, rfl, ⟨rfl, rfl, rfl, rfl, rfl, rfl, rfl, trivial⟩, hst.1, hst.2⟩
  · refine W_false (congrArg Value.bool (decide_eq_false (by omega))) ?_
    refine W_exit ?_
    refine W_seq ?_
    have hjl : j = xs.length := by omega
    subst hjl
    obtain ⟨es, clock, hg, hm2, he2, hDe⟩ := hD2.dirty
    refine W_region rfl ?_
    refine L_val rfl (x_move (by conv => lhs; whnf)) ?_
    refine L_val rfl (x_neqNil pt24 rfl rfl) ?_
    refine L_nil ?_
    refine W_true rfl ?_
    refine W_region rfl ?_
    refine L_val rfl (x_move (by conv => lhs; whnf)) ?_
    refine L_val rfl (x_nilCheck rfl) ?_
    refine L_val rfl (x_field fo_48_1 rfl) ?_
    refine L_val rfl (x_load sc46 rfl (cell_at (v := .map (some bm)) hD2.desc rfl)) ?_
    refine L_clear mp46 rfl rfl hm2 (fun w3 hb3 hc3 => ?_)
    refine L_nil ?_
    obtain ⟨syn, hl, hs2, hS2⟩ := hD2.syn
    refine res0 rfl ⟨⟨hc3.at hD2.desc (by simpa using hdm), ⟨syn, hl, hc3.at hs2 (by simpa using hsm), fun i hi => ?_⟩, ⟨[], clock, Good.nil _, hb3, by simp, fun _ => rfl⟩⟩, (hc02.mono (by simp)).same (hc3.mono (by simp))⟩
    rw [hS2 i hi, List.take_length]
    by_cases e : i ∈ xs
    · rw [if_pos e]
    · rw [if_neg e]
      unfold crS
      cases hd : D i with
      | none => rfl
      | some s => exact absurd ((hxs i).2 (by rw [hd]; rfl)) e
end
end Go.Proofs.Ytinoebjhcmeppaa
