/- A disk: what its blocks hold; the walks of the program's disk.New, is, Len, Read, Write and Sync. -/
import Derived.Test.YtinoebjhcmeppaaMap
namespace Go.Proofs.Ytinoebjhcmeppaa
open E Sha
set_option maxRecDepth 100000
set_option maxHeartbeats 2000000

def secOf (syn : List Int) (i : Nat) : List Int := (syn.drop (64 * i)).take 64
/-- A disk of n sectors: S is what was synced, D what was written since. -/
structure Dk (w : World) (bd bs bm n : Nat) (S : Nat → List Int) (D : Nat → Option (List Int)) : Prop where
  desc : w.heap[bd]? = some (.cells #[.slice (some ⟨bs, 0, none⟩) n n, .map (some bm)] 48 (0, 0))
  syn : ∃ syn, syn.length = 64 * n ∧ w.heap[bs]? = some (.cells (L8 syn) 79 (0, 0)) ∧ ∀ i, i < n → secOf syn i = S i
  dirty : ∃ es clock, Good es clock ∧ w.heap[bm]? = some (mobj es clock) ∧ (∀ x ∈ es, x.1 < n ∧ x.2.1.length = 64) ∧ ∀ i, getE es i = D i
/-- A sector as it was written last. -/
def cur (S : Nat → List Int) (D : Nat → Option (List Int)) (i : Nat) : List Int := (D i).getD (S i)

section
variable {w w' : World} {bd bs bm n : Nat} {S : Nat → List Int} {D : Nat → Option (List Int)}
theorem Dk.chg {T : List Nat} (h : Dk w bd bs bm n S D) (hc : Chg T w w') (h1 : bd ∉ T) (h2 : bs ∉ T) (h3 : bm ∉ T) : Dk w' bd bs bm n S D := by
  obtain ⟨hd, ⟨syn, hl, hs, hS⟩, ⟨es, clock, hg, hm, he, hD⟩⟩ := h
  exact ⟨hc.at hd h1, ⟨syn, hl, hc.at hs h2, hS⟩, ⟨es, clock, hg, hc.at hm h3, he, hD⟩⟩
theorem Dk.chg0 (h : Dk w bd bs bm n S D) (hc : Chg [] w w') : Dk w' bd bs bm n S D := h.chg hc (by simp) (by simp) (by simp)
theorem Dk.ds (h : Dk w bd bs bm n S D) : bd ≠ bs := by
  obtain ⟨syn, _, hs, _⟩ := h.syn
  intro e; subst e; have := h.desc; rw [hs] at this; simp at this
theorem Dk.dm (h : Dk w bd bs bm n S D) : bd ≠ bm := by
  obtain ⟨es, clock, _, hm, _⟩ := h.dirty
  intro e; subst e; have := h.desc; rw [hm] at this; simp [mobj] at this
theorem Dk.sm (h : Dk w bd bs bm n S D) : bs ≠ bm := by
  obtain ⟨syn, _, hs, _⟩ := h.syn
  obtain ⟨es, clock, _, hm, _⟩ := h.dirty
  intro e; subst e; rw [hs] at hm; simp [mobj] at hm
theorem secOf_len {syn : List Int} (hl : syn.length = 64 * n) {i : Nat} (hi : i < n) : (secOf syn i).length = 64 := by
  simp [secOf, hl]; omega
theorem Dk.lenS (h : Dk w bd bs bm n S D) {i : Nat} (hi : i < n) : (S i).length = 64 := by
  obtain ⟨syn, hl, _, hS⟩ := h.syn
  rw [← hS i hi]; exact secOf_len hl hi
theorem getE_mem {es : List Ent} {i : Nat} {s : List Int} (h : getE es i = some s) : ∃ b, (i, s, b) ∈ es := by
  unfold getE at h
  cases hf : es.find? (·.1 == i) with
  | none => simp [hf] at h
  | some x =>
    have h1 := List.find?_some hf
    have h2 := List.mem_of_find?_eq_some hf
    simp [hf] at h
    simp at h1
    subst h1; subst h
    exact ⟨x.2.2, h2⟩
theorem Dk.lenD (h : Dk w bd bs bm n S D) {i : Nat} {s : List Int} (hi : D i = some s) : i < n ∧ s.length = 64 := by
  obtain ⟨es, clock, _, hm, he, hD⟩ := h.dirty
  rw [← hD i] at hi
  obtain ⟨b, hb⟩ := getE_mem hi
  exact he _ hb
theorem Dk.lenC (h : Dk w bd bs bm n S D) {i : Nat} (hi : i < n) : (cur S D i).length = 64 := by
  unfold cur
  cases hd : D i with
  | none => exact h.lenS hi
  | some s => exact (h.lenD hd).2
/-- A sector is laid into what is synced. -/
theorem secOf_put {syn s : List Int} {n i : Nat} (hl : syn.length = 64 * n) (hs : s.length = 64) (hi : i < n) (j : Nat) :
    secOf (syn.take (64 * i) ++ s ++ syn.drop (64 * i + 64)) j = if j = i then s else secOf syn j := by
  unfold secOf
  have h1 : (syn.take (64 * i)).length = 64 * i := by simp [hl]; omega
  by_cases e : j = i
  · subst e
    rw [if_pos rfl, List.append_assoc, List.drop_append, h1, List.drop_eq_nil_of_le (by omega), Nat.sub_self, List.drop_zero, List.nil_append, List.take_append_of_le_length (by omega), List.take_of_length_le (by omega)]
  · rw [if_neg e]
    by_cases hlt : j < i
    · rw [List.append_assoc, List.drop_append_of_le_length (by omega), List.take_append_of_le_length (by simp [hl]; omega), List.drop_take, List.take_take]
      congr 1; omega
    · rw [List.drop_append, List.drop_eq_nil_of_le (by simp [hl, hs]; omega), List.nil_append, List.drop_drop]
      congr 2; simp [hl, hs]; omega
theorem L8_splice (syn s : List Int) (o k : Nat) : ((L8 syn).toList.take o ++ (L8 s).toList ++ (L8 syn).toList.drop k).toArray = L8 (syn.take o ++ s ++ syn.drop k) := by
  simp [L8, List.map_take, List.map_drop]
end

theorem L8_repA (n : Nat) : L8 (List.replicate n 0) = Array.replicate n (u8 0) := by simp [L8]
theorem L8_drop (n k : Nat) : (L8 (List.replicate n 0)).toList.drop k = List.replicate (n - k) (u8 0) := by simp [L8]
theorem L8_app (ys : List Int) (n : Nat) : (ys.map u8 ++ List.replicate n (u8 0)).toArray = L8 (ys ++ List.replicate n 0) := by simp [L8]
theorem mp46 : mapOfT Try.prog 46 = some (3, 79) := by kernel_rfl
theorem madeBytes (n : Nat) : madeCells (Value.agg (L8 (List.replicate 64 0))).cells (n * 64) = L8 (List.replicate (64 * n) 0) := by
  have hz : ∀ k : Nat, ((Value.agg (L8 (List.replicate 64 0))).cells[k % (Value.agg (L8 (List.replicate 64 0))).cells.size]!) = u8 0 := by
    intro k
    have hs : (Value.agg (L8 (List.replicate 64 0))).cells = Array.replicate 64 (u8 0) := by
      exact L8_repA 64
    rw [hs]
    have : k % (Array.replicate 64 (u8 0)).size < (Array.replicate 64 (u8 0)).size := Nat.mod_lt _ (by simp)
    rw [getElem!_pos (Array.replicate 64 (u8 0)) (k % (Array.replicate 64 (u8 0)).size) this]
    simp
  unfold madeCells
  apply Array.ext
  · simp [L8]; omega
  · intro i h1 h2
    simp only [Array.getElem_map, hz]
    simp [L8]
theorem info79 : ∃ i, Try.prog.info? 79 = some i ∧ i.size = 64 ∧ i.bytes = 64 ∧ i.zero = some (.agg (L8 (List.replicate 64 0))) := by
  have h : (Try.prog.info? 79).map (fun i => (i.size, i.bytes, i.zero)) = some (64, 64, some (.agg (L8 (List.replicate 64 0)))) := by kernel_rfl
  cases hi : Try.prog.info? 79 with
  | none => simp [hi] at h
  | some i =>
    simp only [hi, Option.map_some, Option.some.injEq, Prod.mk.injEq] at h
    exact ⟨i, rfl, h.1, h.2.1, h.2.2⟩

theorem f5_new {w : World} {n : Nat} (hn : n ≤ 4096) :
    Calls Try.prog 5 #[i64 (n : Nat)] w (Rv fun v w' => ∃ bd bs bm, v = .tuple #[ptr bd 0, i64 0] ∧ w.heap.size ≤ bd ∧ w.heap.size ≤ bs ∧ w.heap.size ≤ bm ∧ Dk w' bd bs bm n (fun _ => List.replicate 64 0) (fun _ => none) ∧ Chg [] w w') := by
  refine calls_W (args := [i64 (n : Nat)]) Try.func5 rfl Try.ntmps5 rfl ?_
  refine W_seq ?_
  refine W_region rfl ?_
  refine L_val rfl (x_assign (by conv => lhs; whnf)) ?_
  refine L_val rfl (x_assign (by conv => lhs; whnf)) ?_
  refine L_nil ?_
  refine W_seq ?_
  refine W_seq ?_
  refine W_region rfl ?_
  refine L_val rfl (x_move (by conv => lhs; whnf)) ?_
  refine L_val rfl (x_lss (r := false) rfl rfl (decide_eq_false (by omega))) ?_
  refine L_val rfl (x_move (by conv => lhs; whnf)) ?_
  refine L_val rfl (x_move (by conv => lhs; whnf)) ?_
  refine L_val rfl (x_gtr (r := false) rfl rfl (decide_eq_false (by omega))) ?_
  refine L_val rfl (x_pick_f rfl (by conv => lhs; whnf)) ?_
  refine L_nil ?_
  refine W_false rfl ?_
  refine W_skip ?_
  refine W_seq ?_
  obtain ⟨i79, hi79, hsz, hby, hz⟩ := info79
  refine W_region rfl ?_
  refine L_val rfl (x_move (by conv => lhs; whnf)) ?_
  have hmk := run_makeSlice (P := Try.prog) w 45 79 i79 (.agg (L8 (List.replicate 64 0))) (elemOfT_spec el45).1 hi79 hz .i64 .i64 (n : Int) (n : Int) (by omega) (by omega) (by rw [hsz]; omega) (by rw [hby]; omega) (by omega)
  rw [hsz, Int.toNat_natCast, madeBytes] at hmk
  refine L_new (v := .slice (some ⟨w.heap.size, 0, none⟩) n n) (w' := w.alloc (.cells (L8 (List.replicate (64 * n) 0)) 79)) rfl (by
    have h : (do pure (Next.value (← Instr.makeSlice 45 (i64 (n : Nat)) (i64 (n : Nat)))) : Sem Next).run Try.prog w = .ok (.value (.slice (some ⟨w.heap.size, 0, none⟩) n n)) (w.alloc (.cells (L8 (List.replicate (64 * n) 0)) 79)) := by
      simp only [Sem.run_bind, hmk, Result.andThen_ok, Sem.run_pure]
    exact h) ?_
  have hb1 := Go.heap_alloc_new w (.cells (L8 (List.replicate (64 * n) 0)) 79)
  have hc1 : Chg [] w (w.alloc (.cells (L8 (List.replicate (64 * n) 0)) 79)) := Chg.alloc _ _ _
  have hs1 : (w.alloc (.cells (L8 (List.replicate (64 * n) 0)) 79)).heap.size = w.heap.size + 1 := by simp
  generalize w.alloc (.cells (L8 (List.replicate (64 * n) 0)) 79) = w1 at *
  refine L_makeMap rfl (fun w2 hb2 hc2 hs2 => ?_)
  refine L_val rfl (x_build rfl (run_build w2 _ _ #[.slice (some ⟨w.heap.size, 0, none⟩) n n, .map (some w1.heap.size)] (by kernel_rfl))) ?_
  refine L_box rfl (by conv => lhs; whnf) (fun w3 hb3 hc3 hs3 => ?_)
  refine L_val rfl (x_assign (by conv => lhs; whnf)) ?_
  refine L_val rfl (x_assign (by conv => lhs; whnf)) ?_
  refine L_nil ?_
  refine W_ret ?_
  refine res2 rfl rfl rfl ⟨w2.heap.size, w.heap.size, w1.heap.size, rfl, by omega, by omega, by omega, ⟨hb3, ⟨List.replicate (64 * n) 0, by simp, hc3.at (hc2.at hb1 (by simp)) (by simp), fun i hi => ?_⟩, ⟨[], 0, Good.nil 0, hc3.at hb2 (by simp), by simp, fun _ => rfl⟩⟩, (hc1.same hc2).same hc3⟩
  simp only [secOf, List.drop_replicate, List.take_replicate]
  congr 1; omega

section
variable {w : World} {bd bs bm n : Nat} {S : Nat → List Int} {D : Nat → Option (List Int)}
theorem f46_is (h : Dk w bd bs bm n S D) (at0 : Nat) :
    Calls Try.prog 46 #[ptr bd 0, i64 (at0 : Nat)] w (fun e w' => e = .returned (.bool (decide ((at0 : Int) < n))) ∧ w' = w) := by
  refine (calls_W (args := [ptr bd 0, i64 (at0 : Nat)]) (R := fun v w' => v = .bool (decide ((at0 : Int) < n)) ∧ w' = w) Try.func46 rfl Try.ntmps46 rfl ?_).mono (fun e w' ⟨v, he, hv, hw⟩ => ⟨hv ▸ he, hw⟩)
  refine W_seq ?_
  refine W_region rfl ?_
  refine L_val rfl (x_assign (by conv => lhs; whnf)) ?_
  refine L_nil ?_
  refine W_seq ?_
  refine W_region rfl ?_
  refine L_val rfl (x_move (by conv => lhs; whnf)) ?_
  refine L_val rfl (x_neqNil pt24 rfl rfl) ?_
  refine L_val rfl (x_move (by conv => lhs; whnf)) ?_
  refine L_val rfl (x_move (by conv => lhs; whnf)) ?_
  refine L_val rfl (x_geq (r := true) rfl rfl (decide_eq_true (by omega))) ?_
  refine L_val rfl (x_pick_t rfl (by conv => lhs; whnf)) ?_
  refine L_val rfl (x_move (by conv => lhs; whnf)) ?_
  refine L_val rfl (x_move (by conv => lhs; whnf)) ?_
  refine L_val rfl (x_move (by conv => lhs; whnf)) ?_
  refine L_val rfl (x_nilCheck rfl) ?_
  refine L_val rfl (x_field fo_48_0 rfl) ?_
  refine L_val rfl (x_load sc45 rfl (cell_at (v := .slice (some ⟨bs, 0, none⟩) n n) h.desc rfl)) ?_
  refine L_val rfl (x_len el45 rfl) ?_
  refine L_val rfl (x_lss rfl rfl rfl) ?_
  refine L_val rfl (x_pick_t rfl (by conv => lhs; whnf)) ?_
  refine L_val rfl (x_assign (by conv => lhs; whnf)) ?_
  refine L_nil ?_
  refine W_ret ?_
  exact res1 rfl rfl ⟨rfl, rfl⟩

theorem f23_len (h : Dk w bd bs bm n S D) :
    Calls Try.prog 23 #[ptr bd 0] w (fun e w' => e = .returned (i64 (n : Nat)) ∧ w' = w) := by
  refine (calls_W (args := [ptr bd 0]) (R := fun v w' => v = i64 (n : Nat) ∧ w' = w) Try.func23 rfl Try.ntmps23 rfl ?_).mono (fun e w' ⟨v, he, hv, hw⟩ => ⟨hv ▸ he, hw⟩)
  refine W_seq ?_
  refine W_region rfl ?_
  refine L_val rfl (x_assign (by conv => lhs; whnf)) ?_
  refine L_nil ?_
  refine W_seq ?_
  refine W_seq ?_
  refine W_region rfl ?_
  refine L_val rfl (x_move (by conv => lhs; whnf)) ?_
  refine L_val rfl (x_eqlNil pt24 rfl rfl) ?_
  refine L_nil ?_
  refine W_false rfl ?_
  refine W_skip ?_
  refine W_seq ?_
  refine W_region rfl ?_
  refine L_val rfl (x_move (by conv => lhs; whnf)) ?_
  refine L_val rfl (x_nilCheck rfl) ?_
  refine L_val rfl (x_field fo_48_0 rfl) ?_
  refine L_val rfl (x_load sc45 rfl (cell_at (v := .slice (some ⟨bs, 0, none⟩) n n) h.desc rfl)) ?_
  refine L_val rfl (x_len el45 rfl) ?_
  refine L_val rfl (x_assign (by conv => lhs; whnf)) ?_
  refine L_nil ?_
  refine W_ret ?_
  exact res1 rfl rfl ⟨rfl, rfl⟩

theorem L8_agg {w : World} {b o : Nat} {syn : List Int} {T : TypeId} {z : Nat × Nat} {i n : Nat} (hb : w.heap[b]? = some (.cells (L8 syn) T z)) (hl : syn.length = 64 * n) (hi : i < n) (ho : o = 64 * i) :
    ∀ (j : Nat) v, ((secOf syn i).map u8)[j]? = some v → w.cell? ⟨b, o + j, none⟩ = some v := fun j v hv => by
  subst ho
  have hj := (List.getElem?_eq_some_iff.1 hv).1
  rw [List.length_map, secOf_len hl hi] at hj
  refine cell_at hb ?_
  rw [← hv]
  simp [L8, secOf, List.getElem?_take, hj]

theorem f24_read (h : Dk w bd bs bm n S D) (at0 : Nat) :
    Calls Try.prog 24 #[ptr bd 0, i64 (at0 : Nat)] w (Rv fun v w' => Chg [] w w' ∧
      if at0 < n then ∃ b, v = .tuple #[.slice (some ⟨b, 0, none⟩) 64 64, i64 0] ∧ w.heap.size ≤ b ∧ w'.heap[b]? = some (.cells (L8 (cur S D at0)) 79 (0, 0))
      else v = .tuple #[.slice none 0 0, i64 6]) := by
  refine calls_W (args := [ptr bd 0, i64 (at0 : Nat)]) Try.func24 rfl Try.ntmps24 rfl ?_
  refine W_seq ?_
  refine W_region rfl ?_
  refine L_val rfl (x_assign (by conv => lhs; whnf)) ?_
  refine L_val rfl (x_assign (by conv => lhs; whnf)) ?_
  refine L_nil ?_
  refine W_seq ?_
  refine W_seq ?_
  refine W_region rfl ?_
  refine L_val rfl (x_move (by conv => lhs; whnf)) ?_
  refine L_val rfl (x_move (by conv => lhs; whnf)) ?_
  refine L_enterQ rfl (x_call ok46) (f46_is h at0) ?_
  refine L_val rfl (x_not rfl) ?_
  refine L_nil ?_
  by_cases hcond : at0 < n
  · refine W_false (congrArg (fun x => Value.bool !x) (decide_eq_true (by omega))) ?_
    refine W_skip ?_
    obtain ⟨syn, hl, hs, hS⟩ := h.syn
    obtain ⟨es, clock, hg, hm, he, hD⟩ := h.dirty
    have hlc := h.lenC hcond
    refine W_seq ?_
    refine W_region rfl ?_
    refine L_val rfl (x_move (by conv => lhs; whnf)) ?_
    refine L_val rfl (x_nilCheck rfl) ?_
    refine L_val rfl (x_field fo_48_1 rfl) ?_
    refine L_val rfl (x_load sc46 rfl (cell_at (v := .map (some bm)) h.desc rfl)) ?_
    refine L_val rfl (x_move (by conv => lhs; whnf)) ?_
    cases hd : D at0 with
    | some s =>
      have hcur : cur S D at0 = s := by simp [cur, hd]
      rw [hcur] at hlc
      have hge : getE es at0 = some s := by rw [hD, hd]
      refine L_val rfl (x_lookup (v := .tuple #[.agg (L8 s), .bool true]) mp46 kd3 zero79 rfl rfl hm (by rw [hge]; rfl)) ?_
      refine L_val rfl (x_move (by conv => lhs; whnf)) ?_
      refine L_val rfl (x_extract rfl rfl) ?_
      refine L_val rfl (x_extract rfl rfl) ?_
      refine L_alloc zero79 rfl (fun w1 hb1 hc1 hs1 => ?_)
      refine L_storeAll (cs := L8 s) sz79 rfl rfl rfl (by rw [L8_size]; exact hlc) (L8_one _) hb1 rfl (fun w2 hb2 hc2 => ?_)
      refine L_val rfl (x_assign (v := .bool true) rfl) ?_
      refine L_nil ?_
      refine W_seq ?_
      refine W_seq ?_
      refine W_region rfl ?_
      refine L_val rfl (x_move (by conv => lhs; whnf)) ?_
      refine L_val rfl (x_not rfl) ?_
      refine L_nil ?_
      refine W_false rfl ?_
      refine W_skip ?_
      refine W_seq ?_
      refine W_region rfl ?_
      refine L_val rfl (x_sliceArr ar79 rfl) ?_
      refine L_val rfl (x_assign (by conv => lhs; whnf)) ?_
      refine L_val rfl (x_assign (by conv => lhs; whnf)) ?_
      refine L_nil ?_
      refine W_ret ?_
      refine res2 rfl rfl rfl ⟨hc1.trans hc2 (by simp), ?_⟩
      rw [if_pos hcond]
      exact ⟨_, rfl, Nat.le_refl _, by rw [hcur]; exact hb2⟩
    | none =>
      have hcur : cur S D at0 = secOf syn at0 := by simp [cur, hd, hS at0 hcond]
      rw [hcur] at hlc
      have hge : getE es at0 = none := by rw [hD, hd]
      refine L_val rfl (x_lookup (v := .tuple #[.agg (L8 (List.replicate 64 0)), .bool false]) mp46 kd3 (zero79 : _ = some (some (.agg (L8 (List.replicate 64 0))))) rfl rfl hm (by rw [hge]; rfl)) ?_
      refine L_val rfl (x_move (by conv => lhs; whnf)) ?_
      refine L_val rfl (x_extract rfl rfl) ?_
      refine L_val rfl (x_extract rfl rfl) ?_
      refine L_alloc zero79 rfl (fun w1 hb1 hc1 hs1 => ?_)
      refine L_storeAll (cs := L8 (List.replicate 64 0)) sz79 rfl rfl rfl rfl (L8_one _) hb1 rfl (fun w2 hb2 hc2 => ?_)
      refine L_val rfl (x_assign (v := .bool false) rfl) ?_
      refine L_nil ?_
      refine W_seq ?_
      refine W_seq ?_
      refine W_region rfl ?_
      refine L_val rfl (x_move (by conv => lhs; whnf)) ?_
      refine L_val rfl (x_not rfl) ?_
      refine L_nil ?_
      refine W_true rfl ?_
      have hc02 : Chg [] w w2 := hc1.trans hc2 (by simp)
      refine W_region rfl ?_
      refine L_val rfl (x_move (by conv => lhs; whnf)) ?_
      refine L_val rfl (x_nilCheck rfl) ?_
      refine L_val rfl (x_field fo_48_0 rfl) ?_
      refine L_val rfl (x_load sc45 rfl (cell_at (v := .slice (some ⟨bs, 0, none⟩) n n) (hc02.at h.desc (by simp)) rfl)) ?_
      refine L_val rfl (x_move (by conv => lhs; whnf)) ?_
      refine L_val rfl (x_index el45 (i := at0) rfl rfl hcond) ?_
      refine L_val rfl (x_loadAgg ((secOf syn at0).map u8) ag79 rfl (by rw [List.length_map]; exact hlc) (L8_agg (hc02.at hs (by simp)) hl hcond (by omega))) ?_
      refine L_storeAll (cs := L8 (secOf syn at0)) sz79 rfl rfl rfl (by rw [L8_size]; exact hlc) (L8_one _) hb2 rfl (fun w3 hb3 hc3 => ?_)
      refine L_nil ?_
      refine W_seq ?_
      refine W_region rfl ?_
      refine L_val rfl (x_sliceArr ar79 rfl) ?_
      refine L_val rfl (x_assign (by conv => lhs; whnf)) ?_
      refine L_val rfl (x_assign (by conv => lhs; whnf)) ?_
      refine L_nil ?_
      refine W_ret ?_
      refine res2 rfl rfl rfl ⟨hc02.trans hc3 (by simp), ?_⟩
      rw [if_pos hcond]
      exact ⟨_, rfl, Nat.le_refl _, by rw [hcur]; exact hb3⟩
  · refine W_true (congrArg (fun x => Value.bool !x) (decide_eq_false (by omega))) ?_
    refine W_seq ?_
    refine W_region rfl ?_
    refine L_val rfl (x_assign (by conv => lhs; whnf)) ?_
    refine L_val rfl (x_assign (by conv => lhs; whnf)) ?_
    refine L_nil ?_
    refine W_ret ?_
    refine res2 rfl rfl rfl ⟨Chg.refl _ _, ?_⟩
    rw [if_neg hcond]
    rfl

/-- A sector that begins with these bytes, and goes on with zeros. -/
def padS (ys : List Int) : List Int := ys ++ List.replicate (64 - ys.length) 0
theorem padS_len {ys : List Int} (h : ys.length ≤ 64) : (padS ys).length = 64 := by simp [padS]; omega

theorem f27_write (h : Dk w bd bs bm n S D) {at0 : Nat} {x : Value} {ys : List Int} (hx : Bt w x ys) (hat : at0 < n) (hlen : ys.length ≤ 64) :
    Calls Try.prog 27 #[ptr bd 0, i64 (at0 : Nat), x] w (Rv fun v w' => v = i64 0 ∧ Dk w' bd bs bm n S (fun i => if i = at0 then some (padS ys) else D i) ∧ Chg [bm] w w') := by
  obtain ⟨a, cap, rfl⟩ := hx.is
  have hlx := hx.lens
  obtain ⟨es, clock, hg, hm, he, hD⟩ := h.dirty
  refine calls_W (args := [ptr bd 0, i64 (at0 : Nat), .slice a ys.length cap]) Try.func27 rfl Try.ntmps27 rfl ?_
  refine W_seq ?_
  refine W_region rfl ?_
  refine L_val rfl (x_assign (by conv => lhs; whnf)) ?_
  refine L_nil ?_
  refine W_seq ?_
  refine W_block ?_
  refine W_seq ?_
  refine W_region rfl ?_
  refine L_val rfl (x_move (by conv => lhs; whnf)) ?_
  refine L_val rfl (x_move (by conv => lhs; whnf)) ?_
  refine L_enterQ rfl (x_call ok46) (f46_is h at0) ?_
  refine L_val rfl (x_not rfl) ?_
  refine L_val rfl (x_assign (by conv => lhs; whnf)) ?_
  refine L_nil ?_
  refine W_false (congrArg (fun x => Value.bool !x) (decide_eq_true (by omega))) ?_
  refine W_seq ?_
  refine W_region rfl ?_
  refine L_val rfl (x_move (by conv => lhs; whnf)) ?_
  refine L_val rfl (x_len el37 rfl) ?_
  refine L_val rfl (x_gtr rfl rfl rfl) ?_
  refine L_val rfl (x_assign (by conv => lhs; whnf)) ?_
  refine L_nil ?_
  refine W_false (congrArg Value.bool (decide_eq_false (by omega))) ?_
  refine W_skip ?_
  refine W_seq ?_
  refine W_region rfl ?_
  refine L_alloc zero79 rfl (fun w1 hb1 hc1 hs1 => ?_)
  refine L_nil ?_
  refine W_seq ?_
  refine W_region rfl ?_
  refine L_val rfl (x_sliceArr ar79 rfl) ?_
  refine L_val rfl (x_move (by conv => lhs; whnf)) ?_
  have hb1' : w1.heap[w.heap.size]? = some (.cells (L8 (List.replicate 64 0)) 79 (0, 0)) := hb1
  refine L_copy el37 rfl rfl rfl hb1' (hx.chg0 hc1) (by rw [L8_size]; simp) (b8 ys) (fun w2 hb2 hc2 => ?_)
  refine L_nil ?_
  have hb2' : w2.heap[w.heap.size]? = some (.cells (L8 (padS ys)) 79 (0, 0)) := by
    rw [hb2]
    have h1 : min (ys.map u8).length 64 = ys.length := by simp; omega
    rw [h1, List.take_zero, List.nil_append, List.take_of_length_le (by simp; omega), L8_drop, L8_app, Nat.zero_add]
    rfl
  have hc02 : Chg [] w w2 := hc1.trans hc2 (by simp)
  refine W_seq ?_
  refine W_tail 6 mixed (by kernel_rfl) rfl ?_
  refine L_val rfl (x_move (by conv => lhs; whnf)) ?_
  refine L_val rfl (x_nilCheck rfl) ?_
  refine L_val rfl (x_field fo_48_1 rfl) ?_
  refine L_val rfl (x_load sc46 rfl (cell_at (v := .map (some bm)) (hc02.at h.desc (by simp)) rfl)) ?_
  refine L_val rfl (x_move (by conv => lhs; whnf)) ?_
  refine L_val rfl (x_loadRow ag79 rfl hb2' (by rw [L8_size]; exact padS_len hlen)) ?_
  refine L_nil ?_
  refine L_mapUpdate mp46 kd3 rfl rfl rfl rfl (hc02.at hm (by simp)) (fun w3 hb3 hc3 => ?_)
  refine L_nil ?_
  refine W_seq ?_
  refine W_region rfl ?_
  refine L_val rfl (x_assign (by conv => lhs; whnf)) ?_
  refine L_nil ?_
  refine W_ret ?_
  have hc03 : Chg [bm] w w3 := (hc02.mono (by simp)).d.same hc3
  obtain ⟨syn, hl, hs, hS⟩ := h.syn
  refine res1 rfl rfl ⟨rfl, ⟨hc03.at h.desc (by have := h.dm; simpa using this), ⟨syn, hl, hc03.at hs (by have := h.sm; simpa using this), hS⟩, ⟨_, _, hg.put at0 (padS ys), hb3, ?_, fun i => ?_⟩⟩, hc03⟩
  · intro y hy
    have hk := putE_keys clock at0 (padS ys) es
    have : ∀ (es : List Ent), (∀ x ∈ es, x.1 < n ∧ x.2.1.length = 64) → ∀ y ∈ putE clock at0 (padS ys) es, y.1 < n ∧ y.2.1.length = 64 := by
      intro es
      induction es with
      | nil => intro _ y hy; simp [putE] at hy; subst hy; exact ⟨hat, padS_len hlen⟩
      | cons x xs ih =>
        intro hx y hy
        unfold putE at hy
        by_cases e : x.1 = at0
        · rw [if_pos e] at hy
          rcases List.mem_cons.1 hy with rfl | hy
          · exact ⟨hat, padS_len hlen⟩
          · exact hx y (List.mem_cons_of_mem _ hy)
        · rw [if_neg e] at hy
          rcases List.mem_cons.1 hy with rfl | hy
          · exact hx _ (List.mem_cons_self ..)
          · exact ih (fun z hz => hx z (List.mem_cons_of_mem _ hz)) y hy
    exact this es he y hy
  · rw [getE_put, hD]
end
end Go.Proofs.Ytinoebjhcmeppaa
