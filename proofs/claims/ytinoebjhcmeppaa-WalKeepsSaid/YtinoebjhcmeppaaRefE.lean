/- The document's disk in memory; the walks of its New, Sync, Write. -/
import Derived.Test.YtinoebjhcmeppaaRefD
namespace Go.Proofs.Ytinoebjhcmeppaa
open E Sha
set_option maxRecDepth 100000
set_option maxHeartbeats 4000000

/-- A sector's cells: as it is, as it was synced, whether it is dirty. -/
def rowV (is was : List Int) (d : Bool) : List Value := is.map u8 ++ was.map u8 ++ [.bool d]
theorem rowV_len {is was : List Int} (h1 : is.length = 64) (h2 : was.length = 64) (d : Bool) : (rowV is was d).length = 129 := by simp [rowV, h1, h2]
/-- The document's disk of n sectors. -/
structure Xd (w : World) (bx br n : Nat) (Is Was : Nat → List Int) (Dt : Nat → Bool) : Prop where
  desc : w.heap[bx]? = some (.cells #[.slice (some ⟨br, 0, none⟩) n n] 60 (0, 0))
  rows : ∃ c, c.size = 129 * n ∧ w.heap[br]? = some (.cells c 69 (0, 0)) ∧ ∀ i, i < n → ∀ j, j < 129 → c[129 * i + j]? = (rowV (Is i) (Was i) (Dt i))[j]?
  lenI : ∀ i, i < n → (Is i).length = 64
  lenW : ∀ i, i < n → (Was i).length = 64
theorem splice_get {α : Type} (l cs : List α) (o : Nat) (h : o + cs.length ≤ l.length) (k : Nat) : (l.take o ++ cs ++ l.drop (o + cs.length))[k]? = if k < o then l[k]? else if k < o + cs.length then cs[k - o]? else l[k]? := by
  have h1 : (l.take o).length = o := by simp; omega
  by_cases e1 : k < o
  · rw [if_pos e1, List.append_assoc, List.getElem?_append_left (by omega), List.getElem?_take_of_lt e1]
  · rw [if_neg e1]
    by_cases e2 : k < o + cs.length
    · rw [if_pos e2, List.append_assoc, List.getElem?_append_right (by omega), List.getElem?_append_left (by omega), h1]
    · rw [if_neg e2, List.getElem?_append_right (by simp; omega), List.getElem?_drop]
      congr 1; simp; omega
theorem upd_rows {c : Array Value} {n i a : Nat} {cs : List Value} {R R' : Nat → List Value} (hc : c.size = 129 * n) (hR : ∀ i, i < n → ∀ j, j < 129 → c[129 * i + j]? = (R i)[j]?) (hi : i < n) (ha : a + cs.length ≤ 129) (hl : (R i).length = 129)
    (hR' : R' i = (R i).take a ++ cs ++ (R i).drop (a + cs.length)) (hne : ∀ k, k ≠ i → R' k = R k) :
    (c.toList.take (129 * i + a) ++ cs ++ c.toList.drop (129 * i + a + cs.length)).toArray.size = 129 * n ∧
    ∀ k, k < n → ∀ j, j < 129 → (c.toList.take (129 * i + a) ++ cs ++ c.toList.drop (129 * i + a + cs.length)).toArray[129 * k + j]? = (R' k)[j]? := by
  have hcl : c.toList.length = 129 * n := by simpa using hc
  have hin : 129 * i + 129 ≤ 129 * n := by omega
  refine ⟨by simp; omega, fun k hk j hj => ?_⟩
  rw [List.getElem?_toArray, splice_get _ _ _ (by omega)]
  by_cases e : k = i
  · subst e
    rw [hR', splice_get _ _ _ (by omega)]
    have h0 := hR k hk j hj
    rw [← Array.getElem?_toList] at h0
    by_cases e1 : j < a
    · rw [if_pos (by omega), if_pos e1]; exact h0
    · rw [if_neg (by omega), if_neg e1]
      by_cases e2 : j < a + cs.length
      · rw [if_pos (by omega), if_pos e2]; congr 1; omega
      · rw [if_neg (by omega), if_neg e2]; exact h0
  · rw [hne k e]
    have h0 := hR k hk j hj
    rw [← Array.getElem?_toList] at h0
    by_cases e1 : k < i
    · rw [if_pos (by omega)]; exact h0
    · rw [if_neg (by omega), if_neg (by omega)]; exact h0
theorem set_splice (c : Array Value) (o : Nat) (v : Value) (h : o < c.size) : c.setIfInBounds o v = (c.toList.take o ++ [v] ++ c.toList.drop (o + [v].length)).toArray := by
  apply Array.ext'
  rw [Array.toList_setIfInBounds, List.set_eq_take_append_cons_drop, if_pos (by simpa using h)]
  simp

section
variable {w w' : World} {bx br n : Nat} {Is Was : Nat → List Int} {Dt : Nat → Bool}
theorem Xd.chg {T : List Nat} (h : Xd w bx br n Is Was Dt) (hc : Chg T w w') (h1 : bx ∉ T) (h2 : br ∉ T) : Xd w' bx br n Is Was Dt := by
  obtain ⟨hd, ⟨c, hs, hb, hr⟩, h3, h4⟩ := h
  exact ⟨hc.at hd h1, ⟨c, hs, hc.at hb h2, hr⟩, h3, h4⟩
theorem Xd.chg0 (h : Xd w bx br n Is Was Dt) (hc : Chg [] w w') : Xd w' bx br n Is Was Dt := h.chg hc (by simp) (by simp)
theorem Xd.ne (h : Xd w bx br n Is Was Dt) : bx ≠ br := by
  intro e; subst e; have h1 := h.desc; obtain ⟨c, _, h2, _⟩ := h.rows; rw [h1] at h2; simp at h2
theorem Xd.lt (h : Xd w bx br n Is Was Dt) : bx < w.heap.size ∧ br < w.heap.size := by
  obtain ⟨c, _, h2, _⟩ := h.rows; exact ⟨lt_of_at h.desc, lt_of_at h2⟩
theorem Xd.cellI (h : Xd w bx br n Is Was Dt) {i : Nat} (hi : i < n) : ∀ j v, ((Is i).map u8)[j]? = some v → w.cell? ⟨br, 129 * i + j, none⟩ = some v := fun j v hv => by
  obtain ⟨c, hs, hb, hr⟩ := h.rows
  have hj : j < 64 := by have := (List.getElem?_eq_some_iff.1 hv).1; rw [List.length_map, h.lenI i hi] at this; exact this
  refine cell_at hb ?_
  rw [hr i hi j (by omega), rowV, List.append_assoc, List.getElem?_append_left (by simp [h.lenI i hi]; omega)]
  exact hv
theorem Xd.cellW (h : Xd w bx br n Is Was Dt) {i : Nat} (hi : i < n) : ∀ j v, ((Was i).map u8)[j]? = some v → w.cell? ⟨br, 129 * i + 64 + j, none⟩ = some v := fun j v hv => by
  obtain ⟨c, hs, hb, hr⟩ := h.rows
  have hj : j < 64 := by have := (List.getElem?_eq_some_iff.1 hv).1; rw [List.length_map, h.lenW i hi] at this; exact this
  refine cell_at hb ?_
  have hl := h.lenI i hi
  have hl2 := h.lenW i hi
  rw [Nat.add_assoc, hr i hi (64 + j) (by omega), rowV, List.append_assoc, List.getElem?_append_right (by simp [hl]), List.getElem?_append_left (by simp [hl, hl2]; omega)]
  simpa [hl] using hv
theorem Xd.cellD (h : Xd w bx br n Is Was Dt) {i : Nat} (hi : i < n) : w.cell? ⟨br, 129 * i + 128, none⟩ = some (.bool (Dt i)) := by
  obtain ⟨c, hs, hb, hr⟩ := h.rows
  refine cell_at hb ?_
  have hl := h.lenI i hi
  have hl2 := h.lenW i hi
  rw [hr i hi 128 (by omega), rowV, List.getElem?_append_right (by simp [hl, hl2])]
  simp [hl, hl2]
theorem Xd.bt (h : Xd w bx br n Is Was Dt) {i : Nat} (hi : i < n) : Bt w (.slice (some ⟨br, 129 * i, none⟩) 64 64) (Is i) := by
  refine ⟨_, 64, by simp [h.lenI i hi], by simp [h.lenI i hi], by decide, fun j u hu => ⟨br, 129 * i, rfl, h.cellI hi j u hu⟩⟩
theorem u8_cells (s : List Int) : ∀ v ∈ (L8 s).toList, v.oneCell' = true := L8_one s
/-- A store of what a sector is. -/
theorem Xd.setI (h : Xd w bx br n Is Was Dt) {i : Nat} {s : List Int} {c : Array Value} (hi : i < n) (hs : s.length = 64) (hb0 : w.heap[br]? = some (.cells c 69 (0, 0))) {o : Nat} (ho : o = 129 * i)
    (hb : w'.heap[br]? = some (.cells (c.toList.take o ++ (L8 s).toList ++ c.toList.drop (o + 64)).toArray 69 (0, 0))) (hc : Chg [br] w w') : Xd w' bx br n (fun k => if k = i then s else Is k) Was Dt := by
  subst ho
  have hne := h.ne
  obtain ⟨hd, ⟨c0, hs0, hb1, hr⟩, h3, h4⟩ := h
  rw [hb0] at hb1
  simp only [Option.some.injEq, Obj.cells.injEq, and_true] at hb1
  subst hb1
  have hl8 : (L8 s).toList.length = 64 := by simp [L8, hs]
  have hu := upd_rows (a := 0) (cs := (L8 s).toList) (R := fun k => rowV (Is k) (Was k) (Dt k)) (R' := fun k => rowV (if k = i then s else Is k) (Was k) (Dt k)) hs0 hr hi (by omega) (rowV_len (h3 i hi) (h4 i hi) _)
    (by simp only [if_true, rowV, List.take_zero, List.nil_append, hl8]; rw [List.append_assoc ((Is i).map u8), List.drop_append, List.drop_eq_nil_of_le (by simp [h3 i hi])]; simp [h3 i hi, L8]) (fun k hk => by simp only [if_neg hk])
  rw [Nat.add_zero, hl8] at hu
  refine ⟨hc.at hd (by simp; exact hne), ⟨_, hu.1, hb, hu.2⟩, fun k hk => ?_, h4⟩
  by_cases e : k = i
  · simp only [e, if_true]; exact hs
  · simp only [e, if_false]; exact h3 k hk
/-- A store of what a sector was. -/
theorem Xd.setW (h : Xd w bx br n Is Was Dt) {i : Nat} {s : List Int} {c : Array Value} (hi : i < n) (hs : s.length = 64) (hb0 : w.heap[br]? = some (.cells c 69 (0, 0))) {o : Nat} (ho : o = 129 * i + 64)
    (hb : w'.heap[br]? = some (.cells (c.toList.take o ++ (L8 s).toList ++ c.toList.drop (o + 64)).toArray 69 (0, 0))) (hc : Chg [br] w w') : Xd w' bx br n Is (fun k => if k = i then s else Was k) Dt := by
  subst ho
  have hne := h.ne
  obtain ⟨hd, ⟨c0, hs0, hb1, hr⟩, h3, h4⟩ := h
  rw [hb0] at hb1
  simp only [Option.some.injEq, Obj.cells.injEq, and_true] at hb1
  subst hb1
  have hl8 : (L8 s).toList.length = 64 := by simp [L8, hs]
  have h3i := h3 i hi
  have h4i := h4 i hi
  have hu := upd_rows (a := 64) (cs := (L8 s).toList) (R := fun k => rowV (Is k) (Was k) (Dt k)) (R' := fun k => rowV (Is k) (if k = i then s else Was k) (Dt k)) hs0 hr hi (by omega) (rowV_len h3i h4i _)
    (by
      have e1 : ((Is i).map u8 ++ (Was i).map u8 ++ [Value.bool (Dt i)]).take 64 = (Is i).map u8 := by rw [List.append_assoc]; exact List.take_left' (by simp [h3i])
      have e2 : ((Is i).map u8 ++ (Was i).map u8 ++ [Value.bool (Dt i)]).drop (64 + 64) = [Value.bool (Dt i)] := List.drop_left' (by simp [h3i, h4i])
      simp only [if_true, rowV, hl8, e1, e2]
      simp [L8]) (fun k hk => by simp only [if_neg hk])
  rw [hl8] at hu
  refine ⟨hc.at hd (by simp; exact hne), ⟨_, hu.1, hb, hu.2⟩, h3, fun k hk => ?_⟩
  by_cases e : k = i
  · simp only [e, if_true]; exact hs
  · simp only [e, if_false]; exact h4 k hk
/-- A store of the mark. -/
theorem Xd.setD (h : Xd w bx br n Is Was Dt) {i : Nat} {d : Bool} {c : Array Value} (hi : i < n) (hb0 : w.heap[br]? = some (.cells c 69 (0, 0))) {o : Nat} (ho : o = 129 * i + 128)
    (hb : w'.heap[br]? = some (.cells (c.setIfInBounds o (.bool d)) 69 (0, 0))) (hc : Chg [br] w w') : Xd w' bx br n Is Was (fun k => if k = i then d else Dt k) := by
  subst ho
  have hne := h.ne
  obtain ⟨hd, ⟨c0, hs0, hb1, hr⟩, h3, h4⟩ := h
  rw [hb0] at hb1
  simp only [Option.some.injEq, Obj.cells.injEq, and_true] at hb1
  subst hb1
  have h3i := h3 i hi
  have h4i := h4 i hi
  rw [set_splice c _ _ (by omega)] at hb
  have hu := upd_rows (a := 128) (cs := [Value.bool d]) (R := fun k => rowV (Is k) (Was k) (Dt k)) (R' := fun k => rowV (Is k) (Was k) (if k = i then d else Dt k)) hs0 hr hi (by simp) (rowV_len h3i h4i _)
    (by
      simp only [if_true, rowV]
      rw [List.take_append_of_le_length (by simp [h3i, h4i]), List.take_of_length_le (by simp [h3i, h4i]), List.drop_eq_nil_of_le (by simp [h3i, h4i])]
      simp) (fun k hk => by simp only [if_neg hk])
  exact ⟨hc.at hd (by simp; exact hne), ⟨_, hu.1, hb, hu.2⟩, h3, h4⟩
theorem Xd.row (h : Xd w bx br n Is Was Dt) : ∃ c, w.heap[br]? = some (.cells c 69 (0, 0)) ∧ c.size = 129 * n := by
  obtain ⟨c, h1, h2, _⟩ := h.rows; exact ⟨c, h2, h1⟩
theorem Xd.same {Is' Was' : Nat → List Int} {Dt' : Nat → Bool} (h : Xd w bx br n Is Was Dt) (h1 : ∀ i, i < n → Is i = Is' i) (h2 : ∀ i, i < n → Was i = Was' i) (h3 : ∀ i, i < n → Dt i = Dt' i) : Xd w bx br n Is' Was' Dt' := by
  obtain ⟨hd, ⟨c0, hs0, hb1, hr⟩, h4, h5⟩ := h
  exact ⟨hd, ⟨c0, hs0, hb1, fun i hi j hj => by rw [← h1 i hi, ← h2 i hi, ← h3 i hi]; exact hr i hi j hj⟩, fun i hi => by rw [← h1 i hi]; exact h4 i hi, fun i hi => by rw [← h2 i hi]; exact h5 i hi⟩
end

/-! ### New -/
def sec0 : Array Value := (List.replicate 128 (u8 0) ++ [Value.bool false]).toArray
theorem info69 : ∃ i, Try.prog.info? 69 = some i ∧ i.size = 129 ∧ i.bytes = 129 ∧ i.zero = some (.agg sec0) := by
  have h : (Try.prog.info? 69).map (fun i => (i.size, i.bytes, i.zero)) = some (129, 129, some (.agg sec0)) := by kernel_rfl
  cases hi : Try.prog.info? 69 with
  | none => simp [hi] at h
  | some i =>
    simp only [hi, Option.map_some, Option.some.injEq, Prod.mk.injEq] at h
    exact ⟨i, rfl, h.1, h.2.1, h.2.2⟩
theorem sec0_size : sec0.size = 129 := rfl
theorem sec0_get {j : Nat} (hj : j < 129) : sec0[j]? = (rowV (List.replicate 64 0) (List.replicate 64 0) false)[j]? := by
  have : sec0 = (rowV (List.replicate 64 0) (List.replicate 64 0) false).toArray := by kernel_rfl
  rw [this]; simp
theorem f8_new {w : World} {n : Nat} (hn : n ≤ 4096) :
    Calls Try.prog 8 #[i64 (n : Nat)] w (Rv fun v w' => ∃ bx br, v = ptr bx 0 ∧ w.heap.size ≤ bx ∧ w.heap.size ≤ br ∧ Xd w' bx br n (fun _ => List.replicate 64 0) (fun _ => List.replicate 64 0) (fun _ => false) ∧ Chg [] w w') := by
  refine calls_W (args := [i64 (n : Nat)]) Try.func8 rfl Try.ntmps8 rfl ?_
  refine W_seq ?_
  refine W_region rfl ?_
  refine L_val rfl (x_assign (by conv => lhs; whnf)) ?_
  refine L_nil ?_
  refine W_seq ?_
  obtain ⟨i69, hi69, hsz, hby, hz⟩ := info69
  refine W_region rfl ?_
  refine L_val rfl (x_move (by conv => lhs; whnf)) ?_
  have hmk := run_makeSlice (P := Try.prog) w 58 69 i69 (.agg sec0) (elemOfT_spec el58).1 hi69 hz .i64 .i64 (n : Int) (n : Int) (by omega) (by omega) (by rw [hsz]; omega) (by rw [hby]; omega) (by omega)
  rw [hsz, Int.toNat_natCast] at hmk
  refine L_new (v := .slice (some ⟨w.heap.size, 0, none⟩) n n) (w' := w.alloc (.cells (madeCells (Value.agg sec0).cells (n * 129)) 69)) rfl (by
    have h : (do pure (Next.value (← Instr.makeSlice 58 (i64 (n : Nat)) (i64 (n : Nat)))) : Sem Next).run Try.prog w = .ok (.value (.slice (some ⟨w.heap.size, 0, none⟩) n n)) (w.alloc (.cells (madeCells (Value.agg sec0).cells (n * 129)) 69)) := by
      simp only [Sem.run_bind, hmk, Result.andThen_ok, Sem.run_pure]
    exact h) ?_
  have hb1 := Go.heap_alloc_new w (.cells (madeCells (Value.agg sec0).cells (n * 129)) 69)
  have hc1 : Chg [] w (w.alloc (.cells (madeCells (Value.agg sec0).cells (n * 129)) 69)) := Chg.alloc _ _ _
  have hs1 : (w.alloc (.cells (madeCells (Value.agg sec0).cells (n * 129)) 69)).heap.size = w.heap.size + 1 := by simp
  generalize w.alloc (.cells (madeCells (Value.agg sec0).cells (n * 129)) 69) = w1 at *
  refine L_val rfl (x_build rfl (run_build w1 _ _ #[.slice (some ⟨w.heap.size, 0, none⟩) n n] (by kernel_rfl))) ?_
  refine L_box rfl (by conv => lhs; whnf) (fun w3 hb3 hc3 hs3 => ?_)
  refine L_val rfl (x_assign (by conv => lhs; whnf)) ?_
  refine L_nil ?_
  refine W_ret ?_
  refine res1 rfl rfl ⟨w1.heap.size, w.heap.size, rfl, by omega, by omega, ⟨hb3, ⟨_, ?_, hc3.at hb1 (by simp), fun i hi j hj => ?_⟩, fun i _ => by simp, fun i _ => by simp⟩, hc1.same hc3⟩
  · simp [madeCells]; omega
  · have hk : 129 * i + j < n * 129 := by omega
    rw [← sec0_get hj]
    have hc : (Value.agg sec0).cells = sec0 := rfl
    simp only [madeCells, hc, sec0_size]
    rw [Array.getElem?_map, Array.getElem?_range, if_pos hk]
    simp only [Option.map_some]
    have hm : (129 * i + j) % 129 = j := by omega
    rw [hm, getElem!_pos sec0 j (by rw [sec0_size]; exact hj), Array.getElem?_eq_getElem (by rw [sec0_size]; exact hj)]

section
variable {w : World} {bx br n : Nat} {Is Was : Nat → List Int} {Dt : Nat → Bool}
/-! ### Sync -/
theorem f11_sync (h : Xd w bx br n Is Was Dt) (hn : n ≤ 4096) :
    Calls Try.prog 11 #[ptr bx 0] w (Rv fun _ w' => Xd w' bx br n Is Is (fun _ => false) ∧ Chg [br] w w') := by
  have hne := h.ne
  refine calls_W (args := [ptr bx 0]) Try.func11 rfl Try.ntmps11 rfl ?_
  refine W_seq ?_
  refine W_region rfl ?_
  refine L_val rfl (x_assign (by conv => lhs; whnf)) ?_
  refine L_nil ?_
  refine W_block ?_
  refine W_loop (fun m f w1 => ∃ i, i ≤ n ∧ m = n - i ∧ Frm f [(0, ptr bx 0), (2, i64 (i : Nat))] ∧ Xd w1 bx br n Is (fun k => if k < i then Is k else Was k) (fun k => if k < i then false else Dt k) ∧ Chg [br] w w1) n
    ⟨0, by omega, rfl, ⟨rfl, rfl, trivial⟩, h.same (fun _ _ => rfl) (fun k _ => (if_neg (by omega)).symm) (fun k _ => (if_neg (by omega)).symm), Chg.refl _ _⟩ (fun m f w1 hI => ?_)
  obtain ⟨i, hi, rfl, hF, hR, hc1⟩ := hI
  obtain ⟨g, rfl⟩ := hF.eta
  refine W_seq ?_
  refine W_seq ?_
  refine W_region rfl ?_
  refine L_val rfl (x_move (by conv => lhs; whnf)) ?_
  refine L_val rfl (x_move (by conv => lhs; whnf)) ?_
  refine L_val rfl (x_nilCheck rfl) ?_
  refine L_val rfl (x_field fo_60_0 rfl) ?_
  refine L_val rfl (x_load sc58 rfl (cell_at (v := .slice (some ⟨br, 0, none⟩) n n) hR.desc rfl)) ?_
  refine L_val rfl (x_len el58 rfl) ?_
  refine L_val rfl (x_lss rfl rfl rfl) ?_
  refine L_nil ?_
  by_cases hcond : i < n
  · refine W_true (congrArg Value.bool (decide_eq_true (by omega))) ?_
    refine W_skip ?_
    refine W_seq ?_
    refine W_block ?_
    have hIl := hR.lenI i hcond
    have hRd : Xd w1.drew bx br n Is (fun k => if k < i then Is k else Was k) (fun k => if k < i then false else Dt k) := hR.chg0 (Chg.drew [] _)
    have cI : ∀ {w' : World} {Wa : Nat → List Int} {Da : Nat → Bool}, Xd w' bx br n Is Wa Da → ∀ j v, ((Is i).map u8)[j]? = some v → w'.cell? ⟨br, 0 + i * 129 + 0 + j, none⟩ = some v := fun hr j v hv => by
      rw [show 0 + i * 129 + 0 + j = 129 * i + j by omega]; exact hr.cellI hcond j v hv
    refine W_heldN (fun w' => w'.heap[bx]? = some (.cells #[.slice (some ⟨br, 0, none⟩) n n] 60 (0, 0)) ∧ ∀ j v, ((Is i).map u8)[j]? = some v → w'.cell? ⟨br, 0 + i * 129 + 0 + j, none⟩ = some v) 24 mixed rfl ?_
    have hS : w1.drew.heap[bx]? = some (.cells #[.slice (some ⟨br, 0, none⟩) n n] 60 (0, 0)) ∧ ∀ j v, ((Is i).map u8)[j]? = some v → w1.drew.cell? ⟨br, 0 + i * 129 + 0 + j, none⟩ = some v := ⟨hRd.desc, cI hRd⟩
    refine H_take 0 rfl (by kernel_rfl) (by kernel_rfl) (by kernel_rfl) rfl rfl hS (fun w' hq => x_move (v := ptr bx 0) rfl) ?_
    refine H_take 1 rfl (by kernel_rfl) (by kernel_rfl) (by kernel_rfl) rfl rfl hS (fun w' hq => x_nilCheck rfl) ?_
    refine H_take 2 rfl (by kernel_rfl) (by kernel_rfl) (by kernel_rfl) rfl rfl hS (fun w' hq => x_field fo_60_0 rfl) ?_
    refine H_take 3 rfl (by kernel_rfl) (by kernel_rfl) (by kernel_rfl) rfl rfl hS (fun w' hq => x_load sc58 rfl (cell_at (v := .slice (some ⟨br, 0, none⟩) n n) hq.1 rfl)) ?_
    refine H_take 4 rfl (by kernel_rfl) (by kernel_rfl) (by kernel_rfl) rfl rfl hS (fun w' hq => x_move (v := i64 (i : Nat)) rfl) ?_
    refine H_take 5 rfl (by kernel_rfl) (by kernel_rfl) (by kernel_rfl) rfl rfl hS (fun w' hq => x_move (v := ptr bx 0) rfl) ?_
    refine H_take 6 rfl (by kernel_rfl) (by kernel_rfl) (by kernel_rfl) rfl rfl hS (fun w' hq => x_nilCheck rfl) ?_
    refine H_take 7 rfl (by kernel_rfl) (by kernel_rfl) (by kernel_rfl) rfl rfl hS (fun w' hq => x_field fo_60_0 rfl) ?_
    refine H_take 8 rfl (by kernel_rfl) (by kernel_rfl) (by kernel_rfl) rfl rfl hS (fun w' hq => x_load sc58 rfl (cell_at (v := .slice (some ⟨br, 0, none⟩) n n) hq.1 rfl)) ?_
    refine H_take 9 rfl (by kernel_rfl) (by kernel_rfl) (by kernel_rfl) rfl rfl hS (fun w' hq => x_move (v := i64 (i : Nat)) rfl) ?_
    refine H_take 10 rfl (by kernel_rfl) (by kernel_rfl) (by kernel_rfl) rfl rfl hS (fun w' hq => x_move (v := ptr bx 0) rfl) ?_
    refine H_take 11 rfl (by kernel_rfl) (by kernel_rfl) (by kernel_rfl) rfl rfl hS (fun w' hq => x_nilCheck rfl) ?_
    refine H_take 12 rfl (by kernel_rfl) (by kernel_rfl) (by kernel_rfl) rfl rfl hS (fun w' hq => x_field fo_60_0 rfl) ?_
    refine H_take 13 rfl (by kernel_rfl) (by kernel_rfl) (by kernel_rfl) rfl rfl hS (fun w' hq => x_load sc58 rfl (cell_at (v := .slice (some ⟨br, 0, none⟩) n n) hq.1 rfl)) ?_
    refine H_take 14 rfl (by kernel_rfl) (by kernel_rfl) (by kernel_rfl) rfl rfl hS (fun w' hq => x_move (v := i64 (i : Nat)) rfl) ?_
    refine H_take 15 rfl (by kernel_rfl) (by kernel_rfl) (by kernel_rfl) rfl rfl hS (fun w' hq => x_index el58 (i := i) rfl rfl hcond) ?_
    refine H_take 16 rfl (by kernel_rfl) (by kernel_rfl) (by kernel_rfl) rfl rfl hS (fun w' hq => x_field fo_69_0 rfl) ?_
    refine H_take 17 rfl (by kernel_rfl) (by kernel_rfl) (by kernel_rfl) rfl rfl hS (fun w' hq => x_loadAgg ((Is i).map u8) ag67 rfl (by simp [hIl]) hq.2) ?_
    refine H_take 18 rfl (by kernel_rfl) (by kernel_rfl) (by kernel_rfl) rfl rfl hS (fun w' hq => x_index el58 (i := i) rfl rfl hcond) ?_
    refine H_take 19 rfl (by kernel_rfl) (by kernel_rfl) (by kernel_rfl) rfl rfl hS (fun w' hq => x_field fo_69_1 rfl) ?_
    obtain ⟨c, hb, hcs⟩ := hRd.row
    refine H_one 20 (by kernel_rfl) (S_storeAgg (cs := L8 (Is i)) rfl sz67 rfl rfl rfl (by rw [L8_size]; exact hIl) (L8_one _) hb (by omega) (fun w2 hb2 hc2 => ?_))
    have hR2 := hRd.setW hcond hIl hb (show 0 + i * 129 + 64 = 129 * i + 64 by omega) hb2 hc2
    have hS2 : w2.heap[bx]? = some (.cells #[.slice (some ⟨br, 0, none⟩) n n] 60 (0, 0)) ∧ ∀ j v, ((Is i).map u8)[j]? = some v → w2.cell? ⟨br, 0 + i * 129 + 0 + j, none⟩ = some v := ⟨hR2.desc, cI hR2⟩
    refine ⟨hS2, ?_⟩
    refine H_take 21 rfl (by kernel_rfl) (by kernel_rfl) (by kernel_rfl) rfl rfl hS2 (fun w' hq => x_index el58 (i := i) rfl rfl hcond) ?_
    refine H_take 22 rfl (by kernel_rfl) (by kernel_rfl) (by kernel_rfl) rfl rfl hS2 (fun w' hq => x_field fo_69_2 rfl) ?_
    obtain ⟨c2, hb3, hcs2⟩ := hR2.row
    refine H_one 23 (by kernel_rfl) (S_store (v := .bool false) rfl sz4 rfl rfl rfl rfl hb3 (by omega) (fun w3 hb4 hc3 => ?_))
    have hR3 := hR2.setD hcond hb3 (show 0 + i * 129 + 128 = 129 * i + 128 by omega) hb4 hc3
    refine ⟨⟨hR3.desc, cI hR3⟩, ?_⟩
    refine H_done (by kernel_rfl) ?_
    refine W_region rfl ?_
    refine L_val rfl (x_move (by conv => lhs; whnf)) ?_
    refine L_val rfl (x_add rfl rfl (wr64 (c := ((i + 1 : Nat) : Int)) (by omega) (by omega) (by omega))) ?_
    refine L_val rfl (x_assign (by conv => lhs; whnf)) ?_
    refine L_nil ?_
    refine ⟨n - (i + 1), by omega, i + 1, by omega, rfl, ⟨rfl, rfl, trivial⟩, hR3.same (fun _ _ => rfl) (fun k _ => ?_) (fun k _ => ?_), (hc1.d.same hc2).same hc3⟩
    · by_cases e : k = i
      · subst e; simp
      · by_cases e2 : k < i
        · rw [if_neg e, if_pos e2, if_pos (by omega)]
        · rw [if_neg e, if_neg e2, if_neg (by omega)]
    · by_cases e : k = i
      · subst e; simp
      · by_cases e2 : k < i
        · rw [if_neg e, if_pos e2, if_pos (by omega)]
        · rw [if_neg e, if_neg e2, if_neg (by omega)]
  · refine W_false (congrArg Value.bool (decide_eq_false (by omega))) ?_
    refine W_exit ?_
    simp only [Nat.beq_refl, cond_true]
    exact res0 rfl ⟨hR.same (fun _ _ => rfl) (fun k hk => if_pos (by omega)) (fun k hk => if_pos (by omega)), hc1⟩

/-! ### Write -/
theorem f38_write (h : Xd w bx br n Is Was Dt) (hn : n ≤ 4096) {at0 : Nat} {x : Value} {ys : List Int} (hx : Bt w x ys) (hat : at0 < n) (hlen : ys.length ≤ 64) :
    Calls Try.prog 38 #[ptr bx 0, i64 (at0 : Nat), x] w (Rv fun v w' => v = i64 0 ∧ Xd w' bx br n (fun k => if k = at0 then padS ys else Is k) Was (fun k => if k = at0 then true else Dt k) ∧ Chg [br] w w') := by
  have hne := h.ne
  have hlt := h.lt
  obtain ⟨ax, capx, rfl⟩ := hx.is
  refine calls_W (args := [ptr bx 0, i64 (at0 : Nat), .slice ax ys.length capx]) Try.func38 rfl Try.ntmps38 rfl ?_
  refine W_seq ?_
  refine W_region rfl ?_
  refine L_val rfl (x_assign (by conv => lhs; whnf)) ?_
  refine L_nil ?_
  refine W_seq ?_
  refine W_seq ?_
  refine W_region rfl ?_
  refine L_val rfl (x_move (by conv => lhs; whnf)) ?_
  refine L_val rfl (x_lss rfl rfl (decide_eq_false (by omega))) ?_
  refine L_val rfl (x_move (by conv => lhs; whnf)) ?_
  refine L_val rfl (x_move (by conv => lhs; whnf)) ?_
  refine L_val rfl (x_move (by conv => lhs; whnf)) ?_
  refine L_val rfl (x_nilCheck rfl) ?_
  refine L_val rfl (x_field fo_60_0 rfl) ?_
  refine L_val rfl (x_load sc58 rfl (cell_at (v := .slice (some ⟨br, 0, none⟩) n n) h.desc rfl)) ?_
  refine L_val rfl (x_len el58 rfl) ?_
  refine L_val rfl (x_geq rfl rfl (decide_eq_false (by omega))) ?_
  refine L_val rfl (x_pick_f rfl (by conv => lhs; whnf)) ?_
  refine L_nil ?_
  refine W_false rfl ?_
  refine W_skip ?_
  refine W_seq ?_
  refine W_seq ?_
  refine W_region rfl ?_
  refine L_val rfl (x_move (by conv => lhs; whnf)) ?_
  refine L_val rfl (x_len el37 rfl) ?_
  refine L_val rfl (x_gtr rfl rfl (decide_eq_false (by omega))) ?_
  refine L_nil ?_
  refine W_false rfl ?_
  refine W_skip ?_
  refine W_seq ?_
  refine W_region rfl ?_
  refine L_alloc zero67 rfl (fun w1 hb1 hc1 hs1 => ?_)
  refine L_nil ?_
  refine W_seq ?_
  refine W_region rfl ?_
  refine L_val rfl (x_sliceArr ar67 rfl) ?_
  refine L_val rfl (x_move (by conv => lhs; whnf)) ?_
  have hb1' : w1.heap[w.heap.size]? = some (.cells (L8 (List.replicate 64 0)) 67 (0, 0)) := hb1
  refine L_copy el37 rfl rfl rfl hb1' (hx.chg0 hc1) (by rw [L8_size]; simp) (b8 ys) (fun w2 hb2 hc2 => ?_)
  refine L_nil ?_
  have hb2' : w2.heap[w.heap.size]? = some (.cells (L8 (padS ys)) 67 (0, 0)) := by
    rw [hb2]
    have h1 : min (ys.map u8).length 64 = ys.length := by simp; omega
    rw [h1, List.take_zero, List.nil_append, List.take_of_length_le (by simp; omega), L8_drop, L8_app, Nat.zero_add]
    rfl
  have hc02 : Chg [] w w2 := hc1.trans hc2 (by simp)
  have hR2 : Xd w2.drew bx br n Is Was Dt := (h.chg0 hc02).chg0 (Chg.drew [] _)
  have hpl := padS_len hlen
  generalize hq7 : w.heap.size = b7 at *
  refine W_seq ?_
  refine W_heldN (fun w' => w'.heap[bx]? = some (.cells #[.slice (some ⟨br, 0, none⟩) n n] 60 (0, 0)) ∧ w'.heap[b7]? = some (.cells (L8 (padS ys)) 67 (0, 0))) 17 mixed rfl ?_
  have hS : w2.drew.heap[bx]? = some (.cells #[.slice (some ⟨br, 0, none⟩) n n] 60 (0, 0)) ∧ w2.drew.heap[b7]? = some (.cells (L8 (padS ys)) 67 (0, 0)) := ⟨hR2.desc, hb2'⟩
  refine H_take 0 rfl (by kernel_rfl) (by kernel_rfl) (by kernel_rfl) rfl rfl hS (fun w' hq => x_move (v := ptr bx 0) rfl) ?_
  refine H_take 1 rfl (by kernel_rfl) (by kernel_rfl) (by kernel_rfl) rfl rfl hS (fun w' hq => x_nilCheck rfl) ?_
  refine H_take 2 rfl (by kernel_rfl) (by kernel_rfl) (by kernel_rfl) rfl rfl hS (fun w' hq => x_field fo_60_0 rfl) ?_
  refine H_take 3 rfl (by kernel_rfl) (by kernel_rfl) (by kernel_rfl) rfl rfl hS (fun w' hq => x_load sc58 rfl (cell_at (v := .slice (some ⟨br, 0, none⟩) n n) hq.1 rfl)) ?_
  refine H_take 4 rfl (by kernel_rfl) (by kernel_rfl) (by kernel_rfl) rfl rfl hS (fun w' hq => x_move (v := i64 (at0 : Nat)) rfl) ?_
  refine H_take 5 rfl (by kernel_rfl) (by kernel_rfl) (by kernel_rfl) rfl rfl hS (fun w' hq => x_move (v := ptr bx 0) rfl) ?_
  refine H_take 6 rfl (by kernel_rfl) (by kernel_rfl) (by kernel_rfl) rfl rfl hS (fun w' hq => x_nilCheck rfl) ?_
  refine H_take 7 rfl (by kernel_rfl) (by kernel_rfl) (by kernel_rfl) rfl rfl hS (fun w' hq => x_field fo_60_0 rfl) ?_
  refine H_take 8 rfl (by kernel_rfl) (by kernel_rfl) (by kernel_rfl) rfl rfl hS (fun w' hq => x_load sc58 rfl (cell_at (v := .slice (some ⟨br, 0, none⟩) n n) hq.1 rfl)) ?_
  refine H_take 9 rfl (by kernel_rfl) (by kernel_rfl) (by kernel_rfl) rfl rfl hS (fun w' hq => x_move (v := i64 (at0 : Nat)) rfl) ?_
  refine H_take 10 rfl (by kernel_rfl) (by kernel_rfl) (by kernel_rfl) rfl rfl hS (fun w' hq => x_loadRow ag67 rfl hq.2 (by rw [L8_size]; exact hpl)) ?_
  refine H_take 11 rfl (by kernel_rfl) (by kernel_rfl) (by kernel_rfl) rfl rfl hS (fun w' hq => x_index el58 (i := at0) rfl rfl hat) ?_
  refine H_take 12 rfl (by kernel_rfl) (by kernel_rfl) (by kernel_rfl) rfl rfl hS (fun w' hq => x_field fo_69_0 rfl) ?_
  obtain ⟨c, hb, hcs⟩ := hR2.row
  refine H_one 13 (by kernel_rfl) (S_storeAgg (cs := L8 (padS ys)) rfl sz67 rfl rfl rfl (by rw [L8_size]; exact hpl) (L8_one _) hb (by omega) (fun w3 hb3 hc3 => ?_))
  have hR3 := hR2.setI hat hpl hb (show 0 + at0 * 129 + 0 = 129 * at0 by omega) hb3 hc3
  have h73 : w3.heap[b7]? = some (.cells (L8 (padS ys)) 67 (0, 0)) := hc3.at hS.2 (by simp; omega)
  refine ⟨⟨hR3.desc, h73⟩, ?_⟩
  refine H_take 14 rfl (by kernel_rfl) (by kernel_rfl) (by kernel_rfl) rfl rfl ⟨hR3.desc, h73⟩ (fun w' hq => x_index el58 (i := at0) rfl rfl hat) ?_
  refine H_take 15 rfl (by kernel_rfl) (by kernel_rfl) (by kernel_rfl) rfl rfl ⟨hR3.desc, h73⟩ (fun w' hq => x_field fo_69_2 rfl) ?_
  obtain ⟨c2, hb4, hcs2⟩ := hR3.row
  refine H_one 16 (by kernel_rfl) (S_store (v := .bool true) rfl sz4 rfl rfl rfl rfl hb4 (by omega) (fun w4 hb5 hc4 => ?_))
  have hR4 := hR3.setD hat hb4 (show 0 + at0 * 129 + 128 = 129 * at0 + 128 by omega) hb5 hc4
  refine ⟨⟨hR4.desc, hc4.at h73 (by simp; omega)⟩, ?_⟩
  refine H_done (by kernel_rfl) ?_
  refine W_seq ?_
  refine W_region rfl ?_
  refine L_val rfl (x_assign (by conv => lhs; whnf)) ?_
  refine L_nil ?_
  refine W_ret ?_
  exact res1 rfl rfl ⟨rfl, hR4, (((hc02.mono (by simp)).d).same hc3).same hc4⟩
end
end Go.Proofs.Ytinoebjhcmeppaa
