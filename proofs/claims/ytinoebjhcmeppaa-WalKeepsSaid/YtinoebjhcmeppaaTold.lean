/- The walk of the law's 'told'. -/
import Derived.Test.YtinoebjhcmeppaaState
namespace Go.Proofs.Ytinoebjhcmeppaa
open E Sha
set_option maxRecDepth 100000
set_option maxHeartbeats 4000000

theorem info5 : ∃ i, Try.prog.info? 5 = some i ∧ i.size = 1 ∧ i.bytes = 1 ∧ i.zero = some (u8 0) := by
  have h : (Try.prog.info? 5).map (fun i => (i.size, i.bytes, i.zero)) = some (1, 1, some (u8 0)) := by kernel_rfl
  cases hi : Try.prog.info? 5 with
  | none => simp [hi] at h
  | some i =>
    simp only [hi, Option.map_some, Option.some.injEq, Prod.mk.injEq] at h
    exact ⟨i, rfl, h.1, h.2.1, h.2.2⟩
theorem made1 (m : Nat) : madeCells (u8 0).cells (m * 1) = L8 (List.replicate m 0) := by
  unfold madeCells
  apply Array.ext
  · simp [L8]
  · intro i h1 h2
    simp only [Array.getElem_map]
    have hs : (u8 0).cells = #[u8 0] := rfl
    simp [hs, L8, Nat.mod_one]
theorem L_makeBytes {ops : Array Oper} {N : Fr → World → Prop} {f : Fr} {w : World} {l : List Oper} {d : Tmp} {ps : String} {af : Array Edge} {gd : Option (Nat × Bool)} {ty : TypeId} {x y : Operand} {m : Nat}
    (hw : Region.wanted ⟨some d, .makeSlice 37 x y, ty, ps, af, gd⟩ (yieldedF ops f) = true) (hx : ev f x = i64 (m : Nat)) (hy : ev f y = i64 (m : Nat)) (hm : m ≤ 1000000)
    (h : ∀ w', w'.heap[w.heap.size]? = some (.cells (L8 (List.replicate m 0)) 5 (0, 0)) → Chg [] w w' → w'.heap.size = w.heap.size + 1 → L Try.prog ops false N l (upd f d (.slice (some ⟨w.heap.size, 0, none⟩) m m)) w') :
    L Try.prog ops false N (⟨some d, .makeSlice 37 x y, ty, ps, af, gd⟩ :: l) f w := by
  obtain ⟨i5, hi5, hsz, hby, hz⟩ := info5
  have hmk := run_makeSlice (P := Try.prog) w 37 5 i5 (u8 0) (elemOfT_spec el37).1 hi5 hz .i64 .i64 (m : Int) (m : Int) (by omega) (by omega) (by rw [hsz]; omega) (by rw [hby]; omega) (by omega)
  rw [hsz, Int.toNat_natCast, made1] at hmk
  refine L_new hw (v := .slice (some ⟨w.heap.size, 0, none⟩) m m) (w' := w.alloc (.cells (L8 (List.replicate m 0)) 5)) ?_ (h _ (Go.heap_alloc_new w _) (Chg.alloc [] w _) (by simp))
  simp only [execOp, hx, hy, Sem.run_bind, hmk, Result.andThen_ok, Sem.run_pure]
theorem zeros_bt {w : World} {b m : Nat} {T : TypeId} {z : Nat × Nat} (hb : w.heap[b]? = some (.cells (L8 (List.replicate m 0)) T z)) (hm : m ≤ 1000000) : Bt w (.slice (some ⟨b, 0, none⟩) m m) (List.replicate m 0) := by
  have := max_big
  exact L8_bytes hb (by simp; omega) (by simp)
section
variable {w : World} {bd bs bm bl n : Nat} {S : Nat → List Int} {D : Nat → Option (List Int)} {recs : List (List Int)} {k u : Nat}
/-- A Put that fits. -/
theorem put_ok (h : St w bd bs bm bl n S D recs k u) (hn : n ≤ 4096) {x : Value} {ys : List Int} (hx : Bt w x ys) (hy : InB ys) (h1 : 1 ≤ ys.length) (h2 : ys.length ≤ 20000) (hfit : u + (ys.length + 75) / 64 ≤ n) :
    Calls Try.prog 12 #[ptr bl 0, x] w (Rv fun v w' => v = i64 0 ∧ St w' bd bs bm bl n S (putD D (recB ys k) u ((ys.length + 75) / 64)) (recs ++ [ys]) (k + 1) (u + (ys.length + 75) / 64) ∧ Chg [bm, bl] w w') := by
  refine (f12_put h.dk h.log hx (by omega) hn (by have := h.kle; have := h.ule; omega) h.ule).mono (fun e w' ⟨v, he, hv⟩ => ⟨v, he, ?_⟩)
  simp only at hv
  rw [if_neg (by omega), if_neg (by omega)] at hv
  exact ⟨hv.1, h.put hv.2 hy h1 h2 hfit, hv.2.chg⟩
/-- A Put that does not fit. -/
theorem put_full (h : St w bd bs bm bl n S D recs k u) (hn : n ≤ 4096) {x : Value} {ys : List Int} (hx : Bt w x ys) (h1 : 1 ≤ ys.length) (h2 : ys.length ≤ 20000) (hfit : n < u + (ys.length + 75) / 64) :
    Calls Try.prog 12 #[ptr bl 0, x] w (Rv fun v w' => v = i64 5 ∧ Chg [] w w') := by
  refine (f12_put h.dk h.log hx (by omega) hn (by have := h.kle; have := h.ule; omega) h.ule).mono (fun e w' ⟨v, he, hv⟩ => ⟨v, he, ?_⟩)
  have := h.ule
  simp only at hv
  rw [if_neg (by omega), if_pos (by omega)] at hv
  exact hv
/-- A Put of too little or too much. -/
theorem put_arg (h : St w bd bs bm bl n S D recs k u) (hn : n ≤ 4096) {x : Value} {ys : List Int} (hx : Bt w x ys) (h1 : ys.length < 1 ∨ 20000 < ys.length) (h2 : ys.length ≤ 4294967296) :
    Calls Try.prog 12 #[ptr bl 0, x] w (Rv fun v w' => v = i64 1 ∧ Chg [] w w') := by
  refine (f12_put h.dk h.log hx h2 hn (by have := h.kle; have := h.ule; omega) h.ule).mono (fun e w' ⟨v, he, hv⟩ => ⟨v, he, ?_⟩)
  simp only at hv
  rw [if_pos h1] at hv
  exact hv
end
end Go.Proofs.Ytinoebjhcmeppaa
