/- More rules of the engine: frames known at some places, stores and new blocks whose worlds are known by what they hold. General: no program is named. -/
import Derived.Test.YtinoebjhcmeppaaOps
import Derived.Laws.Tables
import Derived.Laws.CopyRow
import Derived.Laws.IdiomCopy
namespace Go.Proofs.Ytinoebjhcmeppaa
namespace E

/-! ### Frames known at some places -/
def Frm (f : Fr) : List (Nat × Value) → Prop
  | [] => True
  | p :: l => f p.1 = p.2 ∧ Frm f l
def updL (g : Fr) : List (Nat × Value) → Fr
  | [] => g
  | p :: l => upd (updL g l) p.1 p.2
theorem upd_eta {f : Fr} {d : Nat} {v : Value} (h : f d = v) : upd f d v = f := by
  funext t
  unfold upd
  cases hb : Nat.beq t d with
  | false => rfl
  | true => rw [Nat.eq_of_beq_eq_true hb, h]; rfl
theorem Frm.eta {f : Fr} : ∀ {l : List (Nat × Value)}, Frm f l → ∃ g, f = updL g l
  | [], _ => ⟨f, rfl⟩
  | p :: l, h => by
    obtain ⟨g, hg⟩ := Frm.eta h.2
    refine ⟨g, ?_⟩
    unfold updL
    rw [← hg, upd_eta h.1]

section
variable {P : Program} {n : Nat} {ops : Array Oper} {N : Fr → World → Prop} {f : Fr} {w : World}
variable {d : Tmp} {op : Op} {ty : TypeId} {ps : String} {af : Array Edge} {gd : Option (Nat × Bool)} {l : List Oper}

theorem setRow_at {w : World} {b : Nat} {c c' : Array Value} {T : TypeId} {z : Nat × Nat} (hb : w.heap[b]? = some (.cells c T z)) : (w.setRow b c').heap[b]? = some (.cells c' T z) := setRow_heap w b c c' T z hb

/-- A store of one cell into a block that is known. -/
theorem L_store {t : TypeId} {x y : Operand} {b o : Nat} {c : Array Value} {T : TypeId} {v : Value} (hs : cellsT P t = some 1)
    (hw : Region.wanted ⟨none, .store t x y, ty, ps, af, gd⟩ (yieldedF ops f) = true) (hx : ev f x = .pointer (some ⟨b, o, none⟩)) (hy : ev f y = v) (h1 : v.oneCell' = true)
    (hb : w.heap[b]? = some (.cells c T (0, 0))) (ho : o < c.size)
    (h : ∀ w', w'.heap[b]? = some (.cells (c.setIfInBounds o v) T (0, 0)) → Chg [b] w w' → L P ops false N l f w') : L P ops false N (⟨none, .store t x y, ty, ps, af, gd⟩ :: l) f w :=
  L_do hw (x_store hs hx hy h1 hb ho) (h _ (setRow_at hb) (Chg.setRow w b _))
/-- A store of a struct or an array. -/
theorem L_storeAgg {t : TypeId} {x y : Operand} {b o n : Nat} {c cs : Array Value} {T : TypeId} (hs : cellsT P t = some n)
    (hw : Region.wanted ⟨none, .store t x y, ty, ps, af, gd⟩ (yieldedF ops f) = true) (hx : ev f x = .pointer (some ⟨b, o, none⟩)) (hy : ev f y = .agg cs) (hn : cs.size = n) (h1 : ∀ v ∈ cs.toList, v.oneCell' = true)
    (hb : w.heap[b]? = some (.cells c T (0, 0))) (ho : o + n ≤ c.size)
    (h : ∀ w', w'.heap[b]? = some (.cells (c.toList.take o ++ cs.toList ++ c.toList.drop (o + n)).toArray T (0, 0)) → Chg [b] w w' → L P ops false N l f w') :
    L P ops false N (⟨none, .store t x y, ty, ps, af, gd⟩ :: l) f w :=
  L_do hw (x_storeAgg hs hx hy hn h1 hb ho) (h _ (setRow_at hb) (Chg.setRow w b _))
/-- The whole of a block. -/
theorem L_storeAll {t : TypeId} {x y : Operand} {b n : Nat} {c cs : Array Value} {T : TypeId} (hs : cellsT P t = some n)
    (hw : Region.wanted ⟨none, .store t x y, ty, ps, af, gd⟩ (yieldedF ops f) = true) (hx : ev f x = .pointer (some ⟨b, 0, none⟩)) (hy : ev f y = .agg cs) (hn : cs.size = n) (h1 : ∀ v ∈ cs.toList, v.oneCell' = true)
    (hb : w.heap[b]? = some (.cells c T (0, 0))) (ho : c.size = n)
    (h : ∀ w', w'.heap[b]? = some (.cells cs T (0, 0)) → Chg [b] w w' → L P ops false N l f w') :
    L P ops false N (⟨none, .store t x y, ty, ps, af, gd⟩ :: l) f w :=
  L_storeAgg hs hw hx hy hn h1 hb (by omega) (fun w' h1 h2 => h w' (by
    rw [h1, List.take_zero, List.nil_append, List.drop_eq_nil_of_le (by simp; omega), List.append_nil]) h2)
theorem L_alloc {t : TypeId} {z : Value} (hz : (P.info? t).map (·.zero) = some (some z)) (hw : Region.wanted ⟨some d, .alloc t, ty, ps, af, gd⟩ (yieldedF ops f) = true)
    (h : ∀ w', w'.heap[w.heap.size]? = some (.cells z.cells t (0, 0)) → Chg [] w w' → w'.heap.size = w.heap.size + 1 → L P ops false N l (upd f d (.pointer (some ⟨w.heap.size, 0, none⟩))) w') :
    L P ops false N (⟨some d, .alloc t, ty, ps, af, gd⟩ :: l) f w :=
  L_new hw (x_alloc hz) (h _ (heap_alloc_new _ _) (Chg.alloc [] w _) (by simp))
theorem L_box {t : TypeId} {x : Operand} {v : Value} (hw : Region.wanted ⟨some d, .box t x, ty, ps, af, gd⟩ (yieldedF ops f) = true) (hx : ev f x = v)
    (h : ∀ w', w'.heap[w.heap.size]? = some (.cells v.cells t (0, 0)) → Chg [] w w' → w'.heap.size = w.heap.size + 1 → L P ops false N l (upd f d (.pointer (some ⟨w.heap.size, 0, none⟩))) w') :
    L P ops false N (⟨some d, .box t x, ty, ps, af, gd⟩ :: l) f w :=
  L_new hw (x_box hx) (h _ (heap_alloc_new _ _) (Chg.alloc [] w _) (by simp))

/-- 'copy(d, s)' for elements of one cell: into a block that is known. -/
theorem run_copy1 {dT sT ty e : TypeId} {g o dLen dCap : Nat} {v : Value} {ys : List Value} {cur : Array Value} {T : TypeId} (hu : elemOfT P dT = some (e, 1)) (hg : w.heap[g]? = some (.cells cur T (0, 0)))
    (hr : Rw w v ys) (hfit : o + dLen ≤ cur.size) (h1 : ∀ u ∈ ys, u.oneCell' = true) :
    ∃ w', (Builtin.copy_ #[dT, sT] ty #[.slice (some ⟨g, o, none⟩) dLen dCap, v]).run P w = .ok (goInt ((min ys.length dLen : Nat) : Int)) w' ∧
      w'.heap[g]? = some (.cells (cur.toList.take o ++ ys.take dLen ++ cur.toList.drop (o + min ys.length dLen)).toArray T (0, 0)) ∧ Chg [g] w w' := by
  obtain ⟨hu, i, hi, hsz⟩ := elemOfT_spec hu
  obtain ⟨a, cap, rfl, hlc, hm, hcells⟩ := hr
  cases a with
  | some a =>
    have hsrc : ∀ j v, (ys.take dLen)[j]? = some v → w.cell? (a.add j) = some v := by
      intro j u hj
      rw [List.getElem?_take] at hj
      split at hj
      · obtain ⟨b, o', hab, hc⟩ := hcells j u hj
        cases hab
        rw [addr_add]; exact hc
      · cases hj
    have hlen : (ys.take dLen).length = Nat.min ys.length dLen := by rw [List.length_take]; exact Nat.min_comm _ _
    have hlen' : (ys.take dLen).length = min ys.length dLen := hlen
    have := run_copy_row (P := P) w dT sT ty e g o dLen dCap a ys.length cap cur T (ys.take dLen) hu (by simp [hi, hsz]) hg hlen hsrc (by rw [hlen']; omega) (fun u hu => h1 u (List.mem_of_mem_take hu))
    rw [hlen'] at this
    exact ⟨_, this, setRow_at hg, Chg.setRow _ _ _⟩
  | none =>
    have h0 : ys = [] := by
      cases ys with
      | nil => rfl
      | cons y ys => obtain ⟨b, o, hab, _⟩ := hcells 0 y rfl; cases hab
    subst h0
    refine ⟨w, ?_, ?_, Chg.refl _ _⟩
    · have := run_copy_none (P := P) w dT sT ty e (some ⟨g, o, none⟩) none dLen dCap 0 cap hu (by simp [hi, hsz]) (by simp)
      simpa using this
    · simpa using hg
theorem L_copy {dT sT e : TypeId} {x y : Operand} {g o dLen dCap : Nat} {v : Value} {ys : List Value} {cur : Array Value} {T : TypeId} (hu : elemOfT P dT = some (e, 1))
    (hw : Region.wanted ⟨some d, .call ⟨.builtin .copy, #[x, y], #[dT, sT]⟩, ty, ps, af, gd⟩ (yieldedF ops f) = true) (hx : ev f x = .slice (some ⟨g, o, none⟩) dLen dCap) (hy : ev f y = v)
    (hg : w.heap[g]? = some (.cells cur T (0, 0))) (hr : Rw w v ys) (hfit : o + dLen ≤ cur.size) (h1 : ∀ u ∈ ys, u.oneCell' = true)
    (h : ∀ w', w'.heap[g]? = some (.cells (cur.toList.take o ++ ys.take dLen ++ cur.toList.drop (o + min ys.length dLen)).toArray T (0, 0)) → Chg [g] w w' → L P ops false N l (upd f d (.int .i64 (min ys.length dLen : Nat))) w') :
    L P ops false N (⟨some d, .call ⟨.builtin .copy, #[x, y], #[dT, sT]⟩, ty, ps, af, gd⟩ :: l) f w := by
  obtain ⟨w', hr, h2, h3⟩ := run_copy1 (sT := sT) (ty := ty) (dCap := dCap) hu hg hr hfit h1
  refine L_new hw (x_builtin (xs := [x, y]) (r := [.slice (some ⟨g, o, none⟩) dLen dCap, v]) (by simp [hx, hy]) _ rfl ?_) (h w' h2 h3)
  simp only [builtin, Sem.run_bind, hr, Result.andThen_ok, Sem.run_pure]
  rfl

/-- A slice of one element that is made. -/
theorem run_buildSlice1 {t e : TypeId} {z v : Value} {by' : Nat} (he : elem1 P t = some (e, z, by')) (h1 : v.cells.size = 1) : (Instr.buildSlice t 1 #[(0, v)]).run P w = .ok (.slice (some ⟨w.heap.size, 0, none⟩) 1 1) (w.alloc (.cells v.cells e)) := by
  obtain ⟨hu, i, hi, hz, hsz, hby, hzs⟩ := elem1_spec he
  have hv : ∃ u, v.cells = #[u] := by
    match hvc : v.cells, h1 with
    | ⟨[u]⟩, _ => exact ⟨u, rfl⟩
  obtain ⟨u, hu'⟩ := hv
  have hr : Array.range 1 = #[0] := rfl
  simp [Instr.buildSlice, run_underlying hu, sizeOf, typeInfo, hi, hsz, zeroValue, hz, Instr.fill, hu', newRow, hr]
theorem L_one {t e : TypeId} {z : Value} {by' : Nat} {x : Operand} {v : Value} (he : elem1 P t = some (e, z, by')) (hw : Region.wanted ⟨some d, .buildSlice t 1 #[(0, x)], ty, ps, af, gd⟩ (yieldedF ops f) = true) (hx : ev f x = v) (h1 : v.cells = #[v])
    (h : ∀ w', w'.heap[w.heap.size]? = some (.cells #[v] e (0, 0)) → Chg [] w w' → w'.heap.size = w.heap.size + 1 → L P ops false N l (upd f d (.slice (some ⟨w.heap.size, 0, none⟩) 1 1)) w') :
    L P ops false N (⟨some d, .buildSlice t 1 #[(0, x)], ty, ps, af, gd⟩ :: l) f w := by
  refine L_new hw (x_buildSlice (vs := #[(0, v)]) (by simp [hx]) (run_buildSlice1 he (by rw [h1]; rfl))) (h _ (by rw [h1]; exact heap_alloc_new _ _) (Chg.alloc [] w _) (by simp))
theorem Rw.one {w : World} {b : Nat} {v : Value} {T : TypeId} {z : Nat × Nat} (hb : w.heap[b]? = some (.cells #[v] T z)) : Rw w (.slice (some ⟨b, 0, none⟩) 1 1) [v] :=
  Rw.of_block hb rfl (Nat.le_refl _) (by decide) (fun j u hu => by
    cases j with
    | zero => simpa using hu
    | succ j => simp at hu)
/-- A row of one's own that is a whole block. -/
theorem owns_block {w : World} {base b n : Nat} {e : TypeId} {xs : List Value} {c : Array Value} (hb : w.heap[b]? = some (.cells c e (0, 0))) (hbase : base ≤ b) (hc : c.toList = xs) (hn : xs.length = n) (hm : n ≤ maxLen) : w.ownsRow base e 1 (.slice (some ⟨b, 0, none⟩) n n) n xs := by
  subst hc
  refine ⟨by omega, .inr ⟨b, n, c, rfl, hbase, hb, Nat.le_refl _, hm, ?_, ?_⟩⟩
  · simp at hn; omega
  · rw [List.take_of_length_le]; simp at hn ⊢; omega

theorem x_indexAgg {t : TypeId} {n e : Nat} {x ix : Operand} {cs : Array Value} {k : IntKind} {i : Nat} {v : Value} (ht : arrayOfT P t = some (n, e, 1)) (hsc : scal P e = true) (hx : ev f x = .agg cs) (hi : ev f ix = .int k (i : Int)) (hlt : i < n) (hv : cs[i]? = some v) {dst : Option Tmp} :
    (execOp (ev f) ⟨dst, .index t x ix, ty, ps, af, gd⟩).run P w = .ok (.value v) w := by
  obtain ⟨hu, q, hq, hs⟩ := arrayOfT_spec ht
  simp [execOp, Instr.index, hx, hi, asIntOf, run_underlying hu, run_sizeOf_of hq, hs, hlt, part, Sem.run_bind, run_isAgg_f hsc, hv]
end

theorem Chg.d {S : List Nat} {w w' : World} (h : Chg S w w') : Chg S w w'.drew := ⟨h.os, h.tape, h.output, h.size, h.block⟩
theorem Chg.same {S : List Nat} {w w' w'' : World} (h : Chg S w w') (h' : Chg S w' w'') : Chg S w w'' := h.trans h' (fun _ h => .inl h)
/-- A row of bytes, somewhere. -/
theorem Rw.some {w : World} {v : Value} {k : Int → Value} {xs : List Int} (h : Rw w v (xs.map k)) (h0 : 0 < xs.length) :
    ∃ b o cap, v = .slice (some ⟨b, o, none⟩) xs.length cap ∧ xs.length ≤ cap ∧ cap ≤ maxLen ∧ ∀ j m, m = o + j → j < xs.length → w.cell? ⟨b, m, none⟩ = some (k (xs.getD j 0)) := by
  obtain ⟨a, cap, rfl, h1, h2, h3⟩ := h
  obtain ⟨b, o, rfl, _⟩ := h3 0 (k xs[0]) (by simp [h0])
  refine ⟨b, o, cap, by simp, by simpa using h1, h2, fun j m hm hj => ?_⟩
  obtain ⟨b', o', hb, hc⟩ := h3 j (k xs[j]) (by simp [hj])
  cases hb
  subst hm
  simpa [hj] using hc
theorem W_cut {P : Program} {n : Nat} {N R : Fr → World → Prop} {X : Nat → Fr → World → Prop} {f : Fr} {w : World} {x y : Code} {I : Fr → World → Prop} (h : W P n x I R X f w) (h2 : ∀ f w, I f w → W P n y N R X f w) : W P n (.seq x y) N R X f w :=
  W_seq (W_mono h h2 (fun _ _ h => h) (fun _ _ _ h => h))

theorem tm {a b c : Int} (h : a % b = c) (ha : 0 ≤ a) (_ : 1 ≤ b) : a.tmod b = c := by rw [Int.tmod_eq_emod_of_nonneg ha]; exact h
theorem Rw.drop {w : World} {k : Int → Value} {a : Option Addr} {len cap l : Nat} {xs : List Int} (h : Rw w (.slice a len cap) (xs.map k)) (hl : xs.length = len) (h1 : l ≤ len) :
    Rw w (.slice (baseAt a cap l 1) (len - l) (cap - l)) ((xs.drop l).map k) := by
  have := h.slice (l := l) (h := len) h1 (Nat.le_refl _)
  rwa [List.take_of_length_le (by simp; omega), ← List.map_drop] at this
theorem Rw.take {w : World} {k : Int → Value} {a : Option Addr} {len cap l : Nat} {xs : List Int} (h : Rw w (.slice a len cap) (xs.map k)) (h1 : l ≤ len) :
    Rw w (.slice (baseAt a cap 0 1) l cap) ((xs.take l).map k) := by
  have := h.slice (l := 0) (h := l) (Nat.zero_le _) h1
  simpa [List.map_take] using this
theorem Rw.lens {w : World} {k : Int → Value} {a : Option Addr} {len cap : Nat} {xs : List Int} (h : Rw w (.slice a len cap) (xs.map k)) : xs.length = len ∧ len ≤ cap ∧ cap ≤ maxLen := by
  obtain ⟨a', cap', hv, h1, h2, _⟩ := h
  simp only [Value.slice.injEq, List.length_map] at hv
  obtain ⟨_, rfl, rfl⟩ := hv
  rw [List.length_map] at h1
  exact ⟨rfl, h1, h2⟩
theorem Rw.is {w : World} {v : Value} {k : Int → Value} {xs : List Int} (h : Rw w v (xs.map k)) : ∃ a cap, v = .slice a xs.length cap := by
  obtain ⟨a, cap, hv, _⟩ := h
  rw [List.length_map] at hv
  exact ⟨a, cap, hv⟩

theorem own_chg {S : List Nat} {w w' : World} {base e s n : Nat} {v : Value} {xs : List Value} (h : w.ownsRow base e s v n xs) (hc : Chg S w w') (hn : ∀ b, v.ownBlock = some b → b ∉ S) : w'.ownsRow base e s v n xs := by
  obtain ⟨h0, h⟩ := h
  refine ⟨h0, ?_⟩
  rcases h with h | ⟨g, cap, cur, rfl, hb, hg, h1⟩
  · exact .inl h
  · exact .inr ⟨g, cap, cur, rfl, hb, hc.at hg (hn g rfl), h1⟩

/-! ### Results that are cells -/
section
variable {P : Program} {f : Fr} {w : World} {fn : Func} {R : Value → World → Prop}
theorem resRow {t : Tmp} {ty : TypeId} {n b : Nat} {c : Array Value} {T : TypeId} {z : Nat × Nat} (hr : fn.results = #[.cell t ty]) (hs : aggn P ty = some n) (hv : f t = .pointer (some ⟨b, 0, none⟩)) (hb : w.heap[b]? = some (.cells c T z)) (hn : c.size = n)
    (h : R (.agg c) w) : Res P fn R f w := by
  refine ⟨.agg c, fun tm ht => ?_, h⟩
  obtain ⟨d, i, hd, hi, hsz, hm⟩ := aggn_spec hs
  have ha := ht t
  rw [hv] at ha
  have hl := run_loadVar_agg (P := P) (w := w) (b := b) (o := 0) (cs := c.toList) hs (by simpa using hn) (fun j v h => cell_at hb (by simpa using h))
  simp only [Array.getD_eq_getD_getElem?] at ha
  simp [results, hr, ha, asAddr, hl]
end
end E
end Go.Proofs.Ytinoebjhcmeppaa
