/- Maps from whole numbers to sectors: what the model's operations on them do; and the rules for the walks. -/
import Derived.Test.YtinoebjhcmeppaaRead
import Derived.Laws.IdiomRangeMap
import Derived.MapKept
namespace Go.Proofs.Ytinoebjhcmeppaa
open E Sha
set_option maxRecDepth 100000
set_option maxHeartbeats 2000000

abbrev Ent := Nat × List Int × Nat
def ent (x : Ent) : MapEntry := ⟨i64 (x.1 : Nat), .agg (L8 x.2.1), x.2.2⟩
def mobj (es : List Ent) (clock : Nat) : Obj := .map (es.map ent).toArray clock
def getE (es : List Ent) (i : Nat) : Option (List Int) := (es.find? (·.1 == i)).map (·.2.1)
def putE (clock : Nat) (i : Nat) (s : List Int) : List Ent → List Ent
  | [] => [(i, s, clock)]
  | x :: xs => if x.1 = i then (i, s, x.2.2) :: xs else x :: putE clock i s xs
/-- The entries are in order. -/
structure Good (es : List Ent) (clock : Nat) : Prop where
  old : ∀ x ∈ es, x.2.2 < clock
  born : (es.map (·.2.2)).Nodup
  key : (es.map (·.1)).Nodup

theorem getE_put (clock i : Nat) (s : List Int) (j : Nat) : ∀ es, getE (putE clock i s es) j = if j = i then some s else getE es j
  | [] => by
    by_cases e : j = i
    · subst e; simp [putE, getE]
    · simp [putE, getE, e, Ne.symm e]
  | x :: xs => by
    have ih := getE_put clock i s j xs
    unfold getE at ih
    unfold putE getE
    by_cases e : x.1 = i
    · rw [if_pos e]
      by_cases ej : j = i
      · subst ej; simp
      · have h1 : ¬ i = j := fun h => ej h.symm
        have h2 : ¬ x.1 = j := fun h => ej (by omega)
        simp [h1, h2, ej]
    · rw [if_neg e]
      by_cases ex : x.1 = j
      · have : ¬ j = i := by omega
        simp [ex, this]
      · simp only [List.find?_cons, show (x.1 == j) = false by simpa using ex]
        exact ih
theorem putE_keys (clock i : Nat) (s : List Int) : ∀ es, (putE clock i s es).map (·.1) = if i ∈ es.map (·.1) then es.map (·.1) else es.map (·.1) ++ [i]
  | [] => by simp [putE]
  | x :: xs => by
    have ih := putE_keys clock i s xs
    unfold putE
    by_cases e : x.1 = i
    · simp [e]
    · rw [if_neg e, List.map_cons, ih]
      have h2 : ¬ i = x.1 := fun h => e h.symm
      by_cases hm : i ∈ xs.map (·.1)
      · rw [if_pos hm, if_pos (by simp [hm])]; rfl
      · rw [if_neg hm, if_neg (by
          intro h
          rcases List.mem_cons.1 (show i ∈ x.1 :: xs.map (·.1) from h) with h | h
          · exact h2 h
          · exact hm h)]
        rfl
theorem putE_born (clock i : Nat) (s : List Int) : ∀ es, (putE clock i s es).map (·.2.2) = if i ∈ es.map (·.1) then es.map (·.2.2) else es.map (·.2.2) ++ [clock]
  | [] => by simp [putE]
  | x :: xs => by
    have ih := putE_born clock i s xs
    unfold putE
    by_cases e : x.1 = i
    · simp [e]
    · rw [if_neg e, List.map_cons, ih]
      have h2 : ¬ i = x.1 := fun h => e h.symm
      by_cases hm : i ∈ xs.map (·.1)
      · rw [if_pos hm, if_pos (by simp [hm])]; rfl
      · rw [if_neg hm, if_neg (by
          intro h
          rcases List.mem_cons.1 (show i ∈ x.1 :: xs.map (·.1) from h) with h | h
          · exact h2 h
          · exact hm h)]
        rfl
theorem Good.put {es : List Ent} {clock : Nat} (h : Good es clock) (i : Nat) (s : List Int) : Good (putE clock i s es) (if i ∈ es.map (·.1) then clock else clock + 1) := by
  have hb := putE_born clock i s es
  have hk := putE_keys clock i s es
  by_cases hm : i ∈ es.map (·.1)
  · rw [if_pos hm] at hb hk ⊢
    refine ⟨fun x hx => ?_, hb ▸ h.born, hk ▸ h.key⟩
    have : x.2.2 ∈ (putE clock i s es).map (·.2.2) := List.mem_map.2 ⟨x, hx, rfl⟩
    rw [hb] at this
    obtain ⟨y, hy, he⟩ := List.mem_map.1 this
    have := h.old y hy; omega
  · rw [if_neg hm] at hb hk ⊢
    refine ⟨fun x hx => ?_, ?_, ?_⟩
    · have : x.2.2 ∈ (putE clock i s es).map (·.2.2) := List.mem_map.2 ⟨x, hx, rfl⟩
      rw [hb] at this
      rcases List.mem_append.1 this with h1 | h1
      · obtain ⟨y, hy, he⟩ := List.mem_map.1 h1
        have := h.old y hy; omega
      · simp at h1; omega
    · rw [hb, List.nodup_append]
      refine ⟨h.born, by simp, fun a ha b hb' => ?_⟩
      obtain ⟨y, hy, he⟩ := List.mem_map.1 ha
      have := h.old y hy
      simp at hb'; omega
    · rw [hk, List.nodup_append]
      refine ⟨h.key, by simp, fun a ha b hb' hab => ?_⟩
      simp at hb'
      subst hb'; subst hab
      exact hm ha
theorem Good.nil (clock : Nat) : Good [] clock := ⟨by simp, by simp, by simp⟩

theorem findNow_ent (i : Nat) : ∀ (es : List Ent) (n : Nat),
    (i ∉ es.map (·.1) ∧ Instr.findNow (.int .i64) (i64 (i : Nat)) (es.map ent) n = some none ∧ getE es i = none ∧ ∀ clock s, putE clock i s es = es ++ [(i, s, clock)]) ∨
    (i ∈ es.map (·.1) ∧ ∃ j x, Instr.findNow (.int .i64) (i64 (i : Nat)) (es.map ent) n = some (some (n + j, .agg (L8 x.2.1))) ∧ es[j]? = some x ∧ x.1 = i ∧ getE es i = some x.2.1 ∧
      ∀ clock s, putE clock i s es = es.set j (i, s, x.2.2))
  | [], n => .inl ⟨by simp, rfl, rfl, fun _ _ => rfl⟩
  | x :: xs, n => by
    by_cases e : x.1 = i
    · refine .inr ⟨by simp [e], 0, x, ?_, rfl, e, by simp [getE, e], fun clock s => by simp [putE, e]⟩
      simp [Instr.findNow, Instr.sameNow, ent, e]
    · have hx : Instr.sameNow (.int .i64) (i64 (i : Nat)) (ent x).key = some false := by
        have : ¬ (i : Int) = (x.1 : Int) := by omega
        simp [Instr.sameNow, ent, this]
      rcases findNow_ent i xs (n + 1) with ⟨h0, h1, h2, h3⟩ | ⟨h0, j, y, h1, h2, h3, h4, h5⟩
      · refine .inl ⟨?_, ?_, ?_, fun clock s => by simp [putE, e, h3]⟩
        · intro h
          rcases List.mem_cons.1 (show i ∈ x.1 :: xs.map (·.1) from h) with h | h
          · exact e h.symm
          · exact h0 h
        · rw [List.map_cons, Instr.findNow, hx]; exact h1
        · have : (x.1 == i) = false := by simpa using e
          simpa [getE, List.find?_cons, this] using h2
      · refine .inr ⟨by simp at h0 ⊢; exact .inr h0, j + 1, y, ?_, by simpa using h2, h3, ?_, fun clock s => by simp [putE, e, h5]⟩
        · rw [List.map_cons, Instr.findNow, hx]; simp only []; rw [h1, Nat.add_assoc, Nat.add_comm 1 j]
        · have : (x.1 == i) = false := by simpa using e
          simpa [getE, List.find?_cons, this] using h4

def mapOfT (P : Program) (t : TypeId) : Option (TypeId × TypeId) := match P.underlying t with | some (.map k e) => some (k, e) | _ => none
theorem mapOfT_spec {P : Program} {t k e : TypeId} (h : mapOfT P t = some (k, e)) : P.underlying t = some (.map k e) := by
  unfold mapOfT at h; split at h <;> simp_all

section
variable {P : Program} {n : Nat} {ops : Array Oper} {N : Fr → World → Prop} {f : Fr} {w : World}
variable {d : Tmp} {op : Op} {ty : TypeId} {ps : String} {af : Array Edge} {gd : Option (Nat × Bool)} {l : List Oper}

theorem run_lookup_ent {t k e : TypeId} {b i clock : Nat} {es : List Ent} {ok : Bool} {z : Value} (ht : mapOfT P t = some (k, e)) (hk : kindOf P k = some .i64) (hz : (P.info? e).map (·.zero) = some (some z)) (hb : w.heap[b]? = some (mobj es clock)) :
    (Instr.lookup t (.map (some b)) (i64 (i : Nat)) ok).run P w =
      .ok (match getE es i with | some s => if ok then .tuple #[.agg (L8 s), .bool true] else .agg (L8 s) | none => if ok then .tuple #[z, .bool false] else z) w := by
  have hk' : MapKept.IsKey (.int .i64) (i64 (i : Nat)) := rfl
  have hc := fun em => MapKept.run_checkKey (P := P) (w := w) (kindOf_spec hk) hk' em 9999
  cases hi : P.info? e with
  | none => simp [hi] at hz
  | some q =>
    have hz' : q.zero = some z := by simpa [hi] using hz
    rcases findNow_ent i es 0 with ⟨_, h1, h2, _⟩ | ⟨_, j, x, h1, _, _, h4, _⟩
    · have hf := MapKept.run_findKey (P := P) (w := w) (kindOf_spec hk) h1
      rw [h2]
      simp [Instr.lookup, run_underlying (mapOfT_spec ht), MapKept.run_getObj_map hb, hc, hf, zeroValue, typeInfo, hi, hz']
    · have hf := MapKept.run_findKey (P := P) (w := w) (kindOf_spec hk) h1
      rw [h4]
      simp [Instr.lookup, run_underlying (mapOfT_spec ht), MapKept.run_getObj_map hb, hc, hf]
theorem x_lookup {t k e : TypeId} {x ix : Operand} {b i clock : Nat} {es : List Ent} {ok : Bool} {z v : Value} (ht : mapOfT P t = some (k, e)) (hk : kindOf P k = some .i64) (hz : (P.info? e).map (·.zero) = some (some z)) (hx : ev f x = .map (some b)) (hi : ev f ix = i64 (i : Nat))
    (hb : w.heap[b]? = some (mobj es clock)) (hv : (match getE es i with | some s => if ok then .tuple #[.agg (L8 s), .bool true] else .agg (L8 s) | none => if ok then .tuple #[z, .bool false] else z) = v) {dst : Option Tmp} :
    (execOp (ev f) ⟨dst, .lookup t x ix ok, ty, ps, af, gd⟩).run P w = .ok (.value v) w := by
  subst hv
  simp only [execOp, hx, hi, Sem.run_bind, run_lookup_ent ht hk hz hb, Result.andThen_ok, Sem.run_pure]

theorem Chg.setObj (w : World) (r : Nat) (o : Obj) : Chg [r] w { w with heap := w.heap.setIfInBounds r o } :=
  ⟨rfl, rfl, rfl, by simp, fun k hk hn => by
    have : r ≠ k := fun e => hn (by simp [e])
    simp [this]⟩

theorem L_mapUpdate {t k e : TypeId} {m x y : Operand} {r i clock : Nat} {es : List Ent} {s : List Int} (ht : mapOfT P t = some (k, e)) (hk : kindOf P k = some .i64)
    (hw : Region.wanted ⟨none, .mapUpdate t m x y, ty, ps, af, gd⟩ (yieldedF ops f) = true) (hm : ev f m = .map (some r)) (hx : ev f x = i64 (i : Nat)) (hy : ev f y = .agg (L8 s)) (hb : w.heap[r]? = some (mobj es clock))
    (h : ∀ w', w'.heap[r]? = some (mobj (putE clock i s es) (if i ∈ es.map (·.1) then clock else clock + 1)) → Chg [r] w w' → L P ops false N l f w') :
    L P ops false N (⟨none, .mapUpdate t m x y, ty, ps, af, gd⟩ :: l) f w := by
  have hk' : MapKept.IsKey (.int .i64) (i64 (i : Nat)) := rfl
  have hc := fun em => MapKept.run_checkKey (P := P) (w := w) (kindOf_spec hk) hk' em 9999
  rcases findNow_ent i es 0 with ⟨hn, h1, _, h3⟩ | ⟨hn, j, x0, h1, h2, h3, _, h5⟩
  · have hf := MapKept.run_findKey (P := P) (w := w) (kindOf_spec hk) h1
    rw [if_neg hn, h3] at h
    have hrun : (Instr.mapUpdate t (.map (some r)) (i64 (i : Nat)) (.agg (L8 s))).run P w = .ok () { w with heap := w.heap.setIfInBounds r (mobj (es ++ [(i, s, clock)]) (clock + 1)) } := by
      simp [Instr.mapUpdate, run_underlying (mapOfT_spec ht), MapKept.run_getObj_map hb, hc, hf, MapKept.run_setObj_map _ hb, mobj, ent]
    refine L_do hw ?_ (h _ (MapKept.heap_set hb).1 (Chg.setObj w r _))
    simp only [execOp, hm, hx, hy, Sem.run_bind, hrun, Result.andThen_ok, Sem.run_pure]
  · have hf := MapKept.run_findKey (P := P) (w := w) (kindOf_spec hk) h1
    rw [if_pos hn, h5] at h
    have hjlt : j < es.length := (List.getElem?_eq_some_iff.1 h2).1
    have hj : es[j] = x0 := (List.getElem?_eq_some_iff.1 h2).2
    have hmod : ((es.map ent).toArray.modify (0 + j) fun e => { e with key := i64 (i : Nat), val := .agg (L8 s) }) = ((es.set j (i, s, x0.2.2)).map ent).toArray := by
      apply Array.ext
      · simp
      · intro a ha hb'
        simp only [Array.getElem_modify, Nat.zero_add]
        simp only [List.getElem_toArray, List.getElem_map, List.getElem_set]
        by_cases e : j = a
        · subst e; simp [hj, ent]
        · simp [e]
    have hkey : ((((es.map ent).toArray)[0 + j]?).map (·.key)).getD (i64 (i : Nat)) = i64 (i : Nat) := by
      simp [h2, ent, h3]
    have hstay := MapKept.run_keyThatStays (P := P) (w := w) (d := .int .i64) hk'
    have hrun : (Instr.mapUpdate t (.map (some r)) (i64 (i : Nat)) (.agg (L8 s))).run P w = .ok () { w with heap := w.heap.setIfInBounds r (mobj (es.set j (i, s, x0.2.2)) clock) } := by
      simp only [Instr.mapUpdate, Sem.run_bind, run_underlying (mapOfT_spec ht), MapKept.run_getObj_map hb, mobj, Result.andThen_ok, hc, hf, hkey, hstay, hmod, MapKept.run_setObj_map _ hb]
    refine L_do hw ?_ (h _ (MapKept.heap_set hb).1 (Chg.setObj w r _))
    simp only [execOp, hm, hx, hy, Sem.run_bind, hrun, Result.andThen_ok, Sem.run_pure]

theorem L_clear {t k e : TypeId} {m : Operand} {r clock : Nat} {es : List Ent} (ht : mapOfT P t = some (k, e))
    (hw : Region.wanted ⟨none, .call ⟨.builtin .clear, #[m], #[t]⟩, ty, ps, af, gd⟩ (yieldedF ops f) = true) (hm : ev f m = .map (some r)) (hb : w.heap[r]? = some (mobj es clock))
    (h : ∀ w', w'.heap[r]? = some (mobj [] clock) → Chg [r] w w' → L P ops false N l f w') : L P ops false N (⟨none, .call ⟨.builtin .clear, #[m], #[t]⟩, ty, ps, af, gd⟩ :: l) f w := by
  refine L_new0 hw (v := .tuple #[]) (x_builtin (xs := [m]) (r := [.map (some r)]) (by simp [hm]) _ rfl ?_) (h _ (MapKept.heap_set hb).1 (Chg.setObj w r _))
  have hrun : (Builtin.clear_ #[t] ty #[.map (some r)]).run P w = .ok (.tuple #[]) { w with heap := w.heap.setIfInBounds r (mobj [] clock) } := by
    simp [Builtin.clear_, run_underlying (mapOfT_spec ht), MapKept.run_getObj_map hb, MapKept.run_setObj_map _ hb, mobj]
  simp only [builtin, Sem.run_bind, hrun, Result.andThen_ok, Sem.run_pure]

theorem L_makeMap {t : TypeId} (hw : Region.wanted ⟨some d, .makeMap t none, ty, ps, af, gd⟩ (yieldedF ops f) = true)
    (h : ∀ w', w'.heap[w.heap.size]? = some (mobj [] 0) → Chg [] w w' → w'.heap.size = w.heap.size + 1 → L P ops false N l (upd f d (.map (some w.heap.size))) w') : L P ops false N (⟨some d, .makeMap t none, ty, ps, af, gd⟩ :: l) f w := by
  refine L_new hw (v := .map (some w.heap.size)) (w' := w.alloc (mobj [] 0)) ?_ (h _ (Go.heap_alloc_new w _) (Chg.alloc [] w _) (by simp))
  simp only [execOp, Instr.makeMap, Option.map_none]
  rfl

/-! ### The loop over a map -/
theorem L_range {t k e : TypeId} {m : Operand} {r clock : Nat} {es : List Ent} (ht : mapOfT P t = some (k, e)) (hw : Region.wanted ⟨some d, .range t m, ty, ps, af, gd⟩ (yieldedF ops f) = true) (hm : ev f m = .map (some r)) (hb : w.heap[r]? = some (mobj es clock))
    (h : ∀ w', w'.heap[w.heap.size]? = some (.mapIter (some r) clock #[] clock) → Chg [] w w' → w'.heap.size = w.heap.size + 1 → L P ops false N l (upd f d (.pointer (some ⟨w.heap.size, 0, none⟩))) w') : L P ops false N (⟨some d, .range t m, ty, ps, af, gd⟩ :: l) f w := by
  refine L_new hw ?_ (h _ (Go.heap_alloc_new w _) (Chg.alloc [] w _) (by simp))
  simp only [execOp, hm, Sem.run_bind, run_range_map w t k e r _ clock (mapOfT_spec ht) hb, Result.andThen_ok, Sem.run_pure]

/-- The entries that the loop has not had. -/
def leftE (es : List Ent) (seen : Array Nat) : List Ent := es.filter fun x => !seen.contains x.2.2
theorem run_next_ent {r bi since c0 clock : Nat} {seen : Array Nat} {es : List Ent} (hb : w.heap[r]? = some (mobj es clock)) (hi : w.heap[bi]? = some (.mapIter (some r) since seen c0)) (hold : ∀ x ∈ es, x.2.2 < since) (hsc : since ≤ c0) :
    (leftE es seen = [] ∧ (Instr.next (.pointer (some ⟨bi, 0, none⟩)) false ty).run P w = .ok (.tuple #[.bool false]) w) ∨
    ∃ x ∈ leftE es seen, ∃ w', (Instr.next (.pointer (some ⟨bi, 0, none⟩)) false ty).run P w = .ok (.tuple #[.bool true, (ent x).key, (ent x).val]) w' ∧ w'.heap[bi]? = some (.mapIter (some r) since (seen.push x.2.2) clock) ∧ Chg [bi] w w' := by
  have ht := next_test_false seen (es.map ent).toArray since c0 (fun x hx => by
    simp at hx; obtain ⟨a, b, c, hm, rfl⟩ := hx; exact hold _ hm) hsc
  have hleft : (es.map ent).toArray.filter (fun e => !seen.contains e.born) = ((leftE es seen).map ent).toArray := by
    simp [leftE, List.filter_map, Function.comp_def, ent]
    rfl
  have hmem : ∀ x ∈ leftE es seen, x.2.2 < since := fun x hx => hold x (List.mem_filter.1 hx).1
  have e1 : ((leftE es seen).map ent).toArray.filter (fun x => decide (x.born < since)) = ((leftE es seen).map ent).toArray := Array.filter_eq_self.2 (fun x hx => by
    simp at hx; obtain ⟨a, b, c, hm, rfl⟩ := hx; exact decide_eq_true (hmem _ hm))
  have e2 : ((leftE es seen).map ent).toArray.filter (fun x => decide (x.born ≥ since)) = #[] := by
    rw [Array.filter_eq_empty_iff]
    intro x hx
    simp at hx; obtain ⟨a, b, c, hm, rfl⟩ := hx
    have := hmem _ hm
    simp [ent] at this ⊢; omega
  simp only [Instr.next, getObj, Sem.run_bind, Sem.run, hi, mobj, hb, Result.andThen, ht, Bool.false_eq_true, if_false, hleft, e1, e2, Array.append_empty]
  generalize leftE es seen = left
  cases left with
  | nil =>
    left
    refine ⟨rfl, ?_⟩
    simp [choose, Sem.run, Question.forced]
  | cons y ys =>
    right
    have hne : ((y :: ys).map ent).toArray.isEmpty = false := rfl
    have hsz : ((y :: ys).map ent).toArray.size = (y :: ys).length := by simp
    simp only [hne, Bool.false_eq_true, if_false, Array.empty_append, Array.size_map, hsz]
    have hch : ∃ (j : Nat) (w1 : World), j < (y :: ys).length ∧ (w1 = w ∨ w1 = w.drew) ∧ (choose (Question.mapNext (y :: ys).length)).run P w = .ok j w1 := by
      by_cases hf : (y :: ys).length ≤ 1
      · refine ⟨0, w, by simp, .inl rfl, ?_⟩
        simp [choose, Sem.run, Question.forced, hf]
        simp at hf; simp [hf]
      · exact ⟨_, w.drew, Nat.mod_lt _ (by simp), .inr rfl, by
          simp only [choose, Sem.run, Question.forced, decide_eq_true_eq, hf, if_false, Question.cut]
          rfl⟩
    obtain ⟨j, w1, hj, hw1, hrun⟩ := hch
    have hi1 : w1.heap[bi]? = some (.mapIter (some r) since seen c0) := by rcases hw1 with rfl | rfl <;> exact hi
    have hc1 : Chg [] w w1 := by
      rcases hw1 with rfl | rfl
      · exact Chg.refl _ _
      · exact Chg.drew _ _
    refine ⟨(y :: ys)[j], List.getElem_mem hj, { w1 with heap := w1.heap.setIfInBounds bi (.mapIter (some r) since (seen.push (y :: ys)[j].2.2) clock) }, ?_, ?_, (hc1.mono (by simp)).same (Chg.setObj w1 bi _)⟩
    · have hg : (((y :: ys).map ent).toArray.map some)[j]? = some (some (ent (y :: ys)[j])) := by
        rw [Array.getElem?_map, List.getElem?_toArray, List.getElem?_map, List.getElem?_eq_getElem hj]; rfl
      simp only [hrun, hg, setObj, Sem.run, Sem.run_bind, hi1, Result.andThen, ent]
      rfl
    · exact (MapKept.heap_set hi1).1

theorem L_next {r bi since c0 clock : Nat} {seen : Array Nat} {es : List Ent} {it : Operand} (hw : Region.wanted ⟨some d, .next it false, ty, ps, af, gd⟩ (yieldedF ops f) = true) (hit : ev f it = .pointer (some ⟨bi, 0, none⟩))
    (hb : w.heap[r]? = some (mobj es clock)) (hi : w.heap[bi]? = some (.mapIter (some r) since seen c0)) (hold : ∀ x ∈ es, x.2.2 < since) (hsc : since ≤ c0)
    (hno : leftE es seen = [] → L P ops false N l (upd f d (.tuple #[.bool false])) w)
    (hyes : ∀ x ∈ leftE es seen, ∀ w', w'.heap[bi]? = some (.mapIter (some r) since (seen.push x.2.2) clock) → Chg [bi] w w' → L P ops false N l (upd f d (.tuple #[.bool true, (ent x).key, (ent x).val])) w') :
    L P ops false N (⟨some d, .next it false, ty, ps, af, gd⟩ :: l) f w := by
  rcases run_next_ent (P := P) (ty := ty) hb hi hold hsc with ⟨h0, hrun⟩ | ⟨x, hx, w', hrun, h1, h2⟩
  · refine L_new hw ?_ (hno h0)
    simp only [execOp, hit, Sem.run_bind, hrun, Result.andThen_ok, Sem.run_pure]
  · refine L_new hw ?_ (hyes x hx w' h1 h2)
    simp only [execOp, hit, Sem.run_bind, hrun, Result.andThen_ok, Sem.run_pure]
theorem x_entry {r bi since clock : Nat} {seen : Array Nat} {es : List Ent} {it : Operand} {x : Ent} {dst : Option Tmp} (hit : ev f it = .pointer (some ⟨bi, 0, none⟩)) (hb : w.heap[r]? = some (mobj es clock)) (hi : w.heap[bi]? = some (.mapIter (some r) since (seen.push x.2.2) clock))
    (hx : x ∈ es) (hn : (es.map (·.2.2)).Nodup) : (execOp (ev f) ⟨dst, .entry it, ty, ps, af, gd⟩).run P w = .ok (.value (.tuple #[i64 (x.1 : Nat), .agg (L8 x.2.1)])) w := by
  have hf : (es.map ent).toArray.find? (·.born == x.2.2) = some (ent x) := by
    rw [← Array.find?_toList]
    exact find_born (ent x) (es.map ent) (by simpa [Function.comp_def, ent] using hn) (List.mem_map.2 ⟨x, hx, rfl⟩)
  simp only [execOp, hit, Instr.entry, getObj, Sem.run_bind, Sem.run, hi, mobj, hb, Result.andThen, Array.back?_push, bne_self_eq_false, Bool.false_eq_true, if_false, hf]
  rfl
end
end Go.Proofs.Ytinoebjhcmeppaa
