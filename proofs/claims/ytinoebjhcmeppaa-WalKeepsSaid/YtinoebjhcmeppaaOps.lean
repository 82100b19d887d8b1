/- What each operation of the model does, as one equation each, over frames that are functions. General: no program is named. -/
import Derived.Test.YtinoebjhcmeppaaEng
import Derived.Laws.AppendOwn
import Derived.Laws.Bits
import Derived.Laws.Entries
import Derived.Laws.Slices
import Derived.Laws.Small
import Derived.Laws.Pointers
import Derived.Laws.MakeOwn
import Derived.Laws.Unary
import Derived.Laws.Strings
import Derived.IntWalk
namespace Go.Proofs.Ytinoebjhcmeppaa
namespace E

/-- A type whose values take one cell and are no struct and no array. -/
def scal (P : Program) (t : TypeId) : Bool :=
  match P.underlying t, P.info? t with
  | some (.struct _), _ | some (.array _ _), _ => false
  | some _, some i => Nat.beq i.size 1
  | _, _ => false
/-- How many cells a struct or an array has. -/
def aggn (P : Program) (t : TypeId) : Option Nat :=
  match P.underlying t, P.info? t with
  | some (.struct _), some i | some (.array _ _), some i => some i.size
  | _, _ => none
/-- How many cells a value of a type has. -/
def cellsT (P : Program) (t : TypeId) : Option Nat := (P.info? t).map (·.size)
/-- Where a field lies. -/
def fieldOff (P : Program) (s : TypeId) (i : Nat) : Option Nat :=
  match P.underlying s with
  | some (.struct fs) => match fs[i]? with
    | some fd => match P.info? fd.type with
      | some q => if q.size = 0 then none else some fd.offset
      | none => none
    | none => none
  | _ => none
/-- The kind of an integer type. -/
def kindOf (P : Program) (t : TypeId) : Option IntKind := match P.underlying t with | some (.int k) => some k | _ => none
/-- A slice type's element type, and how many cells it has. -/
def elemOfT (P : Program) (t : TypeId) : Option (TypeId × Nat) :=
  match P.underlying t with
  | some (.slice e) => (P.info? e).map fun i => (e, i.size)
  | _ => none
/-- An array type's length, its element type, and how many cells that has. -/
def arrayOfT (P : Program) (t : TypeId) : Option (Nat × TypeId × Nat) :=
  match P.underlying t with
  | some (.array n e) => (P.info? e).map fun i => (n, e, i.size)
  | _ => none

section
variable {P : Program} {f : Fr} {w : World} {dst : Option Tmp} {ps : String} {af : Array Edge} {gd : Option (Nat × Bool)} {ty : TypeId}

theorem kindOf_spec {t : TypeId} {k : IntKind} (h : kindOf P t = some k) : P.underlying t = some (.int k) := by
  unfold kindOf at h; split at h <;> simp_all
theorem elemOfT_spec {t e : TypeId} {s : Nat} (h : elemOfT P t = some (e, s)) : P.underlying t = some (.slice e) ∧ ∃ i, P.info? e = some i ∧ i.size = s := by
  unfold elemOfT at h; split at h
  · rename_i e' he
    cases hi : P.info? e' with
    | none => simp [hi] at h
    | some i => simp [hi] at h; obtain ⟨rfl, rfl⟩ := h; exact ⟨he, i, hi, rfl⟩
  · cases h
theorem arrayOfT_spec {t e : TypeId} {n s : Nat} (h : arrayOfT P t = some (n, e, s)) : P.underlying t = some (.array n e) ∧ ∃ i, P.info? e = some i ∧ i.size = s := by
  unfold arrayOfT at h; split at h
  · rename_i n' e' he
    cases hi : P.info? e' with
    | none => simp [hi] at h
    | some i => simp [hi] at h; obtain ⟨rfl, rfl, rfl⟩ := h; exact ⟨he, i, hi, rfl⟩
  · cases h

theorem x_move {x : Operand} {v : Value} (hv : ev f x = v) : (execOp (ev f) ⟨dst, .move x, ty, ps, af, gd⟩).run P w = .ok (.value v) w := by subst hv; rfl
theorem x_assign {x : Operand} {v : Value} (hv : ev f x = v) : (execOp (ev f) ⟨dst, .assign x, ty, ps, af, gd⟩).run P w = .ok (.value v) w := by subst hv; rfl
theorem x_pick_t {c a b : Operand} {v : Value} (hc : ev f c = .bool true) (hv : ev f a = v) : (execOp (ev f) ⟨dst, .pick c a b, ty, ps, af, gd⟩).run P w = .ok (.value v) w := by
  subst hv; simp [execOp, hc, asBool]
theorem x_pick_f {c a b : Operand} {v : Value} (hc : ev f c = .bool false) (hv : ev f b = v) : (execOp (ev f) ⟨dst, .pick c a b, ty, ps, af, gd⟩).run P w = .ok (.value v) w := by
  subst hv; simp [execOp, hc, asBool]
theorem x_nilCheck {x : Operand} {a : Addr} (hx : ev f x = .pointer (some a)) : (execOp (ev f) ⟨dst, .nilCheck x, ty, ps, af, gd⟩).run P w = .ok (.value (.pointer (some a))) w := by
  simp [execOp, hx]
theorem addr_add (b o n : Nat) : (⟨b, o, none⟩ : Addr).add n = ⟨b, o + n, none⟩ := by
  unfold Addr.add; split <;> simp_all
theorem x_field {s : TypeId} {x : Operand} {i off b o : Nat} (hs : fieldOff P s i = some off) (hx : ev f x = .pointer (some ⟨b, o, none⟩)) :
    (execOp (ev f) ⟨dst, .fieldAddr s x i, ty, ps, af, gd⟩).run P w = .ok (.value (.pointer (some ⟨b, o + off, none⟩))) w := by
  unfold fieldOff at hs
  split at hs
  · rename_i fs hu
    cases hf : fs[i]? with
    | none => simp [hf] at hs
    | some fd =>
      cases hi : P.info? fd.type with
      | none => simp [hf, hi] at hs
      | some q =>
        simp [hf, hi] at hs
        obtain ⟨h0, rfl⟩ := hs
        simp [execOp, Instr.fieldAt, hx, run_underlying hu, hf, Instr.sureAddr, fieldPlace, sizeOf, typeInfo, hi, h0, addr_add]
  · cases hs
theorem scal_spec {t : TypeId} (h : scal P t = true) : ∃ d i, P.underlying t = some d ∧ P.info? t = some i ∧ i.size = 1 ∧ (match d with | .struct _ | .array _ _ => false | _ => true) = true := by
  unfold scal at h
  split at h <;> simp_all
theorem run_isAgg_f {t : TypeId} (h : scal P t = true) : (isAgg t).run P w = .ok false w := by
  obtain ⟨d, i, hd, _, _, hm⟩ := scal_spec h
  unfold isAgg
  rw [Sem.run_bind, run_underlying hd w]
  cases d <;> simp_all
theorem x_load {t : TypeId} {x : Operand} {b o : Nat} {v : Value} (hs : scal P t = true) (hx : ev f x = .pointer (some ⟨b, o, none⟩)) (hc : w.cell? ⟨b, o, none⟩ = some v) :
    (execOp (ev f) ⟨dst, .load t x, ty, ps, af, gd⟩).run P w = .ok (.value v) w := by
  simp [execOp, Instr.loadAt, hx, Instr.sureAddr, loadVar, Sem.run_bind, run_isAgg_f hs, load, Sem.run, hc]

theorem aggn_spec {t : TypeId} {n : Nat} (h : aggn P t = some n) : ∃ d i, P.underlying t = some d ∧ P.info? t = some i ∧ i.size = n ∧ (match d with | .struct _ | .array _ _ => true | _ => false) = true := by
  unfold aggn at h
  split at h <;> simp_all
theorem run_isAgg_t {t : TypeId} {n : Nat} (h : aggn P t = some n) : (isAgg t).run P w = .ok true w := by
  obtain ⟨d, i, hd, _, _, hm⟩ := aggn_spec h
  unfold isAgg
  rw [Sem.run_bind, run_underlying hd w]
  cases d <;> simp_all
theorem run_sizeOf_of {t : TypeId} {i : TypeInfo} (h : P.info? t = some i) : (sizeOf t).run P w = .ok i.size w := by
  simp [sizeOf, typeInfo, h]
/-- What stands at a place of a row of cells. -/
theorem cell_at {b o : Nat} {c : Array Value} {T : TypeId} {z : Nat × Nat} {v : Value} (hb : w.heap[b]? = some (.cells c T z)) (hc : c[o]? = some v) : w.cell? ⟨b, o, none⟩ = some v := by
  rw [cell_of_row w b o c T z hb]; exact hc
theorem run_loadVar_agg {t : TypeId} {n b o : Nat} {cs : List Value} (hs : aggn P t = some n) (hn : cs.length = n) (hc : ∀ j v, cs[j]? = some v → w.cell? ⟨b, o + j, none⟩ = some v) :
    (loadVar t ⟨b, o, none⟩).run P w = .ok (.agg cs.toArray) w := by
  obtain ⟨d, i, _, hi, hsz, _⟩ := aggn_spec hs
  have hl := run_loadCells_list (P := P) w ⟨b, o, none⟩ cs (fun j v h => by rw [addr_add]; exact hc j v h)
  rw [hn] at hl
  simp [loadVar, Sem.run_bind, run_isAgg_t hs, run_sizeOf_of hi, hsz, hl]
theorem x_loadAgg {t : TypeId} {x : Operand} {n b o : Nat} (cs : List Value) (hs : aggn P t = some n) (hx : ev f x = .pointer (some ⟨b, o, none⟩)) (hn : cs.length = n)
    (hc : ∀ j v, cs[j]? = some v → w.cell? ⟨b, o + j, none⟩ = some v) :
    (execOp (ev f) ⟨dst, .load t x, ty, ps, af, gd⟩).run P w = .ok (.value (.agg cs.toArray)) w := by
  simp [execOp, Instr.loadAt, hx, Instr.sureAddr, run_loadVar_agg hs hn hc]
/-- A struct's or an array's variable that is a block of its own. -/
theorem x_loadRow {t : TypeId} {x : Operand} {n b : Nat} {c : Array Value} {T : TypeId} {z : Nat × Nat} (hs : aggn P t = some n) (hx : ev f x = .pointer (some ⟨b, 0, none⟩)) (hb : w.heap[b]? = some (.cells c T z)) (hn : c.size = n) :
    (execOp (ev f) ⟨dst, .load t x, ty, ps, af, gd⟩).run P w = .ok (.value (.agg c)) w := by
  have := x_loadAgg (dst := dst) (ty := ty) (ps := ps) (af := af) (gd := gd) (w := w) c.toList hs hx (by simpa using hn) (fun j v h => cell_at hb (by simpa using h))
  simpa using this

theorem x_store {t : TypeId} {x y : Operand} {b o : Nat} {c : Array Value} {T : TypeId} {v : Value} (hs : cellsT P t = some 1) (hx : ev f x = .pointer (some ⟨b, o, none⟩)) (hy : ev f y = v) (h1 : v.oneCell' = true)
    (hb : w.heap[b]? = some (.cells c T (0, 0))) (ho : o < c.size) :
    (execOp (ev f) ⟨dst, .store t x y, ty, ps, af, gd⟩).run P w = .ok .skip (w.setRow b (c.setIfInBounds o v)) := by
  subst hy
  unfold cellsT at hs
  cases hi : P.info? t with
  | none => simp [hi] at hs
  | some i =>
    have hsz : i.size = 1 := by simpa [hi] using hs
    have hcs : (ev f y).cells = #[ev f y] := by
      cases he : ev f y <;> simp [he, Value.oneCell'] at h1 <;> rfl
    have hst := run_storeCells_at P b o T [ev f y] 0 c w hb (by simp; omega) (by simpa using h1)
    have he : (c.toList.take (o + 0) ++ [ev f y] ++ c.toList.drop (o + 0 + 1)).toArray = c.setIfInBounds o (ev f y) := by
      apply Array.ext'
      rw [Array.toList_setIfInBounds]
      simp only [Nat.add_zero]
      rw [List.set_eq_take_append_cons_drop, if_pos (by simpa using ho)]
      simp
    simp only [List.length_cons, List.length_nil] at hst
    rw [Nat.zero_add] at hst
    rw [he] at hst
    simp [execOp, Instr.storeAt, hx, Instr.sureAddr, storeVar, hcs, run_sizeOf_of hi, hsz, hst]

theorem x_storeAgg {t : TypeId} {x y : Operand} {b o n : Nat} {c cs : Array Value} {T : TypeId} (hs : cellsT P t = some n) (hx : ev f x = .pointer (some ⟨b, o, none⟩)) (hy : ev f y = .agg cs) (hn : cs.size = n) (h1 : ∀ v ∈ cs.toList, v.oneCell' = true)
    (hb : w.heap[b]? = some (.cells c T (0, 0))) (ho : o + n ≤ c.size) :
    (execOp (ev f) ⟨dst, .store t x y, ty, ps, af, gd⟩).run P w = .ok .skip (w.setRow b (c.toList.take o ++ cs.toList ++ c.toList.drop (o + n)).toArray) := by
  unfold cellsT at hs
  cases hi : P.info? t with
  | none => simp [hi] at hs
  | some i =>
    have hsz : i.size = n := by simpa [hi] using hs
    have hst := run_storeCells_at P b o T cs.toList 0 c w hb (by simp; omega) h1
    simp only [Array.length_toList, Nat.add_zero, hn] at hst
    simp [execOp, Instr.storeAt, hx, hy, Instr.sureAddr, storeVar, Value.cells, run_sizeOf_of hi, hsz, hn, hst]

theorem x_alloc {t : TypeId} {z : Value} (hz : (P.info? t).map (·.zero) = some (some z)) :
    (execOp (ev f) ⟨dst, .alloc t, ty, ps, af, gd⟩).run P w = .ok (.value (.pointer (some ⟨w.heap.size, 0, none⟩))) (w.alloc (.cells z.cells t)) := by
  cases hi : P.info? t with
  | none => simp [hi] at hz
  | some i =>
    have hz' : i.zero = some z := by simpa [hi] using hz
    simp [execOp, Instr.alloc, zeroValue, typeInfo, hi, hz', newVar, newRow]
theorem x_box {t : TypeId} {x : Operand} {v : Value} (hx : ev f x = v) :
    (execOp (ev f) ⟨dst, .box t x, ty, ps, af, gd⟩).run P w = .ok (.value (.pointer (some ⟨w.heap.size, 0, none⟩))) (w.alloc (.cells v.cells t)) := by
  subst hx
  simp [execOp, Instr.box, newVar, newRow]
theorem x_build {t : TypeId} {parts : Array (Nat × Operand)} {v : Value} {vs : Array (Nat × Value)} (hp : (parts.map fun (i, x) => (i, ev f x)) = vs) (h : (Instr.build t vs).run P w = .ok v w) :
    (execOp (ev f) ⟨dst, .build t parts, ty, ps, af, gd⟩).run P w = .ok (.value v) w := by
  subst hp
  simp only [execOp, Sem.run_bind, h, Result.andThen_ok, Sem.run_pure]
theorem x_buildSlice {t : TypeId} {k : Nat} {parts : Array (Nat × Operand)} {v : Value} {w' : World} {vs : Array (Nat × Value)} (hp : (parts.map fun (i, x) => (i, ev f x)) = vs) (h : (Instr.buildSlice t k vs).run P w = .ok v w') :
    (execOp (ev f) ⟨dst, .buildSlice t k parts, ty, ps, af, gd⟩).run P w = .ok (.value v) w' := by
  subst hp
  simp only [execOp, Sem.run_bind, h, Result.andThen_ok, Sem.run_pure]
theorem x_extract {x : Operand} {i : Nat} {vs : Array Value} {v : Value} (hx : ev f x = .tuple vs) (hv : vs[i]? = some v) :
    (execOp (ev f) ⟨dst, .extract x i, ty, ps, af, gd⟩).run P w = .ok (.value v) w := by
  simp [execOp, Instr.extract, hx, hv]
theorem x_makeFunc {fn : Fn} {first captured : Array Operand} (hfn : ∀ g, fn ≠ .methodOf g "" ∨ True) {k : FuncId} (hk : fn = .func k) (h0 : first = #[]) :
    (execOp (ev f) ⟨dst, .makeFunc fn first captured, ty, ps, af, gd⟩).run P w = (do pure (Next.value (← Instr.makeFunc (.func k) #[] (captured.map (ev f)))) : Sem Next).run P w := by
  subst hk h0
  simp [execOp]

/-! Whole numbers -/
theorem x_conv {s d : TypeId} {x : Operand} {k k' : IntKind} {n c : Int} (hs : kindOf P s = some k') (hd : kindOf P d = some k) (hx : ev f x = .int k' n) (hc : k.wrap n = c) :
    (execOp (ev f) ⟨dst, .convert s d x, ty, ps, af, gd⟩).run P w = .ok (.value (.int k c)) w := by
  subst hc
  simp [execOp, hx, convert, run_underlying (kindOf_spec hs), run_underlying (kindOf_spec hd), Conv.intToInt]
theorem x_add {t u : TypeId} {x y : Operand} {k : IntKind} {a b c : Int} (hx : ev f x = .int k a) (hy : ev f y = .int k b) (hc : k.wrap (a + b) = c) :
    (execOp (ev f) ⟨dst, .binOp .add t x y u, ty, ps, af, gd⟩).run P w = .ok (.value (.int k c)) w := by
  subst hc
  simp [go_sem, execOp, eqGuard, hx, hy, Op.intArith]
theorem x_sub {t u : TypeId} {x y : Operand} {k : IntKind} {a b c : Int} (hx : ev f x = .int k a) (hy : ev f y = .int k b) (hc : k.wrap (a - b) = c) :
    (execOp (ev f) ⟨dst, .binOp .sub t x y u, ty, ps, af, gd⟩).run P w = .ok (.value (.int k c)) w := by
  subst hc
  simp [go_sem, execOp, eqGuard, hx, hy, Op.intArith]
theorem x_mul {t u : TypeId} {x y : Operand} {k : IntKind} {a b c : Int} (hx : ev f x = .int k a) (hy : ev f y = .int k b) (hc : k.wrap (a * b) = c) :
    (execOp (ev f) ⟨dst, .binOp .mul t x y u, ty, ps, af, gd⟩).run P w = .ok (.value (.int k c)) w := by
  subst hc
  simp [go_sem, execOp, eqGuard, hx, hy, Op.intArith]
theorem x_quo {t u : TypeId} {x y : Operand} {k : IntKind} {a b c : Int} (hx : ev f x = .int k a) (hy : ev f y = .int k b) (h0 : b ≠ 0) (hc : k.wrap (a.tdiv b) = c) :
    (execOp (ev f) ⟨dst, .binOp .quo t x y u, ty, ps, af, gd⟩).run P w = .ok (.value (.int k c)) w := by
  subst hc
  simp [go_sem, execOp, eqGuard, hx, hy, Op.intDiv, h0]
theorem x_rem {t u : TypeId} {x y : Operand} {k : IntKind} {a b c : Int} (hx : ev f x = .int k a) (hy : ev f y = .int k b) (h0 : b ≠ 0) (hc : a.tmod b = c) :
    (execOp (ev f) ⟨dst, .binOp .rem t x y u, ty, ps, af, gd⟩).run P w = .ok (.value (.int k c)) w := by
  subst hc
  simp [go_sem, execOp, eqGuard, hx, hy, Op.intDiv, h0]
theorem x_and {t u : TypeId} {x y : Operand} {k : IntKind} {a b : Int} (hx : ev f x = .int k a) (hy : ev f y = .int k b) :
    (execOp (ev f) ⟨dst, .binOp .and t x y u, ty, ps, af, gd⟩).run P w = .ok (.value (.int k (bits .and k a b))) w := by
  simp [go_sem, execOp, eqGuard, hx, hy]
theorem x_or {t u : TypeId} {x y : Operand} {k : IntKind} {a b : Int} (hx : ev f x = .int k a) (hy : ev f y = .int k b) :
    (execOp (ev f) ⟨dst, .binOp .or t x y u, ty, ps, af, gd⟩).run P w = .ok (.value (.int k (bits .or k a b))) w := by
  simp [go_sem, execOp, eqGuard, hx, hy]
theorem x_xor {t u : TypeId} {x y : Operand} {k : IntKind} {a b : Int} (hx : ev f x = .int k a) (hy : ev f y = .int k b) :
    (execOp (ev f) ⟨dst, .binOp .xor t x y u, ty, ps, af, gd⟩).run P w = .ok (.value (.int k (bits .xor k a b))) w := by
  simp [go_sem, execOp, eqGuard, hx, hy]
theorem x_shl {t u : TypeId} {x y : Operand} {k k' : IntKind} {a b c : Int} (hx : ev f x = .int k a) (hy : ev f y = .int k' b) (h0 : ¬ b < 0) (hc : k.wrap (a * 2 ^ (min b.toNat k.bits)) = c) :
    (execOp (ev f) ⟨dst, .binOp .shl t x y u, ty, ps, af, gd⟩).run P w = .ok (.value (.int k c)) w := by
  subst hc
  simp [go_sem, execOp, eqGuard, hx, hy, Op.shift, h0]
theorem x_shr {t u : TypeId} {x y : Operand} {k k' : IntKind} {a b c : Int} (hx : ev f x = .int k a) (hy : ev f y = .int k' b) (h0 : ¬ b < 0) (hc : a.fdiv (2 ^ (min b.toNat k.bits)) = c) :
    (execOp (ev f) ⟨dst, .binOp .shr t x y u, ty, ps, af, gd⟩).run P w = .ok (.value (.int k c)) w := by
  subst hc
  simp [go_sem, execOp, eqGuard, hx, hy, Op.shift, h0]
theorem x_not32 {t : TypeId} {x : Operand} {n : Int} (hx : ev f x = .int .u32 n) :
    (execOp (ev f) ⟨dst, .unOp .xor t x, ty, ps, af, gd⟩).run P w = .ok (.value (.int .u32 (bits .xor .u32 IntKind.u32.max n))) w := by
  simp [go_sem, execOp, hx, Op.unary, IntKind.signed]
theorem x_not {t : TypeId} {x : Operand} {b : Bool} (hx : ev f x = .bool b) :
    (execOp (ev f) ⟨dst, .unOp .not t x, ty, ps, af, gd⟩).run P w = .ok (.value (.bool !b)) w := by
  simp [go_sem, execOp, hx, Op.unary]
theorem x_lss {t u : TypeId} {x y : Operand} {k : IntKind} {a b : Int} {r : Bool} (hx : ev f x = .int k a) (hy : ev f y = .int k b) (hr : decide (a < b) = r) :
    (execOp (ev f) ⟨dst, .binOp .lss t x y u, ty, ps, af, gd⟩).run P w = .ok (.value (.bool r)) w := by
  simp [go_sem, execOp, eqGuard, hx, hy, hr]
theorem x_leq {t u : TypeId} {x y : Operand} {k : IntKind} {a b : Int} {r : Bool} (hx : ev f x = .int k a) (hy : ev f y = .int k b) (hr : decide (a ≤ b) = r) :
    (execOp (ev f) ⟨dst, .binOp .leq t x y u, ty, ps, af, gd⟩).run P w = .ok (.value (.bool r)) w := by
  simp [go_sem, execOp, eqGuard, hx, hy, hr]
theorem x_gtr {t u : TypeId} {x y : Operand} {k : IntKind} {a b : Int} {r : Bool} (hx : ev f x = .int k a) (hy : ev f y = .int k b) (hr : decide (b < a) = r) :
    (execOp (ev f) ⟨dst, .binOp .gtr t x y u, ty, ps, af, gd⟩).run P w = .ok (.value (.bool r)) w := by
  simp [go_sem, execOp, eqGuard, hx, hy, hr]
theorem x_geq {t u : TypeId} {x y : Operand} {k : IntKind} {a b : Int} {r : Bool} (hx : ev f x = .int k a) (hy : ev f y = .int k b) (hr : decide (b ≤ a) = r) :
    (execOp (ev f) ⟨dst, .binOp .geq t x y u, ty, ps, af, gd⟩).run P w = .ok (.value (.bool r)) w := by
  simp [go_sem, execOp, eqGuard, hx, hy, hr]
theorem x_eql {t u : TypeId} {x y : Operand} {k : IntKind} {a b : Int} {r : Bool} (hx : ev f x = .int k a) (hy : ev f y = .int k b) (hr : decide (a = b) = r) :
    (execOp (ev f) ⟨dst, .binOp .eql t x y u, ty, ps, af, gd⟩).run P w = .ok (.value (.bool r)) w := by
  subst hr
  simp [go_sem, execOp, eqGuard, hx, hy]
  by_cases h : a = b <;> simp [h]
theorem x_neq {t u : TypeId} {x y : Operand} {k : IntKind} {a b : Int} {r : Bool} (hx : ev f x = .int k a) (hy : ev f y = .int k b) (hr : decide (a = b) = r) :
    (execOp (ev f) ⟨dst, .binOp .neq t x y u, ty, ps, af, gd⟩).run P w = .ok (.value (.bool !r)) w := by
  subst hr
  simp [go_sem, execOp, eqGuard, hx, hy, bne]
  by_cases h : a = b <;> simp [h]
theorem run_equal_bool {t : TypeId} {a b : Bool} (ht : P.underlying t = some .bool) : (Op.equal t (.bool a) (.bool b)).run P w = .ok (a == b) w := by
  have h : ∀ d, (Op.equalIn (d + 1) t (.bool a) (.bool b)).run P w = .ok (a == b) w := fun d => by
    simp [Op.equalIn, run_underlying ht]
  exact h 9999
theorem x_neqB {t u : TypeId} {x y : Operand} {a b : Bool} (ht : P.underlying t = some .bool) (hx : ev f x = .bool a) (hy : ev f y = .bool b) :
    (execOp (ev f) ⟨dst, .binOp .neq t x y u, ty, ps, af, gd⟩).run P w = .ok (.value (.bool (a != b))) w := by
  have h : binOp .neq t (.bool a) (.bool b) = (do pure (.bool (!(← Op.equal t (.bool a) (.bool b))))) := rfl
  simp only [execOp, eqGuard, hx, hy, h]
  simp [run_equal_bool ht, bne]
theorem x_eqlNil {t u : TypeId} {x y : Operand} {p : Option Addr} (ht : P.underlying t = some (.pointer (P.pointee t))) (hx : ev f x = .pointer p) (hy : ev f y = .pointer none) :
    (execOp (ev f) ⟨dst, .binOp .eql t x y u, ty, ps, af, gd⟩).run P w = .ok (.value (.bool p.isNone)) w := by
  simp [go_sem, execOp, eqGuard, hx, hy, run_eql_pointer_nil w t p ht]
theorem x_neqNil {t u : TypeId} {x y : Operand} {p : Option Addr} (ht : P.underlying t = some (.pointer (P.pointee t))) (hx : ev f x = .pointer p) (hy : ev f y = .pointer none) :
    (execOp (ev f) ⟨dst, .binOp .neq t x y u, ty, ps, af, gd⟩).run P w = .ok (.value (.bool !p.isNone)) w := by
  simp [go_sem, execOp, eqGuard, hx, hy, run_neq_pointer_nil w t p ht]

/-! Calls -/
def fnOk (P : Program) (g : FuncId) : Bool :=
  match P.funcs[g]? with
  | some fn => !(fn.name == "runtime.NumGoroutine") && fn.body.isSome
  | none => false
theorem run_callFunc {g : FuncId} {args : Array Value} (h : fnOk P g = true) : (callFunc g args).run P w = .ok (.enter g args) w := by
  unfold fnOk at h
  cases hf : P.funcs[g]? with
  | none => simp [hf] at h
  | some fn =>
    simp only [hf, Bool.and_eq_true, Bool.not_eq_true'] at h
    have h1 : ¬ fn.name = "runtime.NumGoroutine" := by
      have := h.1; simpa using this
    have h2 : ¬ fn.body = none := by
      intro e; simp [e] at h
    simp [callFunc, program, Sem.run, Sem.run_bind, hf, h1, h2]
theorem x_call {g : FuncId} {xs : List Operand} {ats : Array TypeId} (hg : fnOk P g = true) :
    (execOp (ev f) ⟨dst, .call ⟨.value (.func g), xs.toArray, ats⟩, ty, ps, af, gd⟩).run P w = .ok (.enter g (xs.map (ev f)).toArray) w := by
  simp [execOp, resolve, ev, Deferred.ofValue, invoke, run_callFunc hg]
theorem x_callv {x : Operand} {g : FuncId} {captured : Array Value} {xs : List Operand} {ats : Array TypeId} (hx : ev f x = .func (.func g) #[] captured) (hg : fnOk P g = true) :
    (execOp (ev f) ⟨dst, .call ⟨.value x, xs.toArray, ats⟩, ty, ps, af, gd⟩).run P w = .ok (.enter g ((xs.map (ev f)).toArray ++ captured)) w := by
  simp [execOp, resolve, hx, Deferred.ofValue, invoke, run_callFunc hg]
theorem x_builtin {b : Builtin} {xs : List Operand} {ats : Array TypeId} {v : Value} {w' : World} {r : List Value} (hr : xs.map (ev f) = r) (cs : Array Bool) (hcs : (xs.map fun | .const _ => true | _ => false).toArray = cs)
    (h : (builtin b ats ty cs r.toArray).run P w = .ok (.value v) w') :
    (execOp (ev f) ⟨dst, .call ⟨.builtin b, xs.toArray, ats⟩, ty, ps, af, gd⟩).run P w = .ok (.value v) w' := by
  subst hr hcs
  simp only [execOp, resolve, Sem.run_bind, Sem.run_pure, Result.andThen_ok, invoke, List.map_toArray]
  exact h
theorem x_len {x : Operand} {t : TypeId} {e s : Nat} {a : Option Addr} {n c : Nat} (ht : elemOfT P t = some (e, s)) (hx : ev f x = .slice a n c) :
    (execOp (ev f) ⟨dst, .call ⟨.builtin .len, #[x], #[t]⟩, ty, ps, af, gd⟩).run P w = .ok (.value (.int .i64 n)) w := by
  refine x_builtin (xs := [x]) (r := [.slice a n c]) (by simp [hx]) _ rfl ?_
  simp [builtin, Builtin.len_, run_underlying (elemOfT_spec ht).1, goInt]
theorem x_min {x y : Operand} {ats : Array TypeId} {k k' : IntKind} {a b : Int} (hx : ev f x = .int k a) (hy : ev f y = .int k' b) :
    (execOp (ev f) ⟨dst, .call ⟨.builtin .min, #[x, y], ats⟩, ty, ps, af, gd⟩).run P w = .ok (.value (.int k (if b < a then b else a))) w := by
  refine x_builtin (xs := [x, y]) (r := [.int k a, .int k' b]) (by simp [hx, hy]) _ rfl ?_
  simp [builtin, Builtin.min_, Builtin.min2]
theorem x_max {x y : Operand} {ats : Array TypeId} {k k' : IntKind} {a b : Int} (hx : ev f x = .int k a) (hy : ev f y = .int k' b) :
    (execOp (ev f) ⟨dst, .call ⟨.builtin .max, #[x, y], ats⟩, ty, ps, af, gd⟩).run P w = .ok (.value (.int k (if b > a then b else a))) w := by
  refine x_builtin (xs := [x, y]) (r := [.int k a, .int k' b]) (by simp [hx, hy]) _ rfl ?_
  simp [builtin, Builtin.max_, Builtin.max2]

/-! Places -/
theorem x_index {t : TypeId} {e s : Nat} {x ix : Operand} {b o len cap i : Nat} {k : IntKind} (ht : elemOfT P t = some (e, s)) (hx : ev f x = .slice (some ⟨b, o, none⟩) len cap) (hi : ev f ix = .int k (i : Int)) (hlt : i < len) :
    (execOp (ev f) ⟨dst, .indexAddr t x ix, ty, ps, af, gd⟩).run P w = .ok (.value (.pointer (some ⟨b, o + i * s, none⟩))) w := by
  obtain ⟨hu, q, hq, hs⟩ := elemOfT_spec ht
  simp [execOp, Instr.indexAt, hx, hi, asIntOf, run_underlying hu, run_sizeOf_of hq, hs, addr_add, hlt]
theorem x_indexArr {t : TypeId} {n e s : Nat} {x ix : Operand} {b o i : Nat} {k : IntKind} (ht : arrayOfT P t = some (n, e, s)) (hx : ev f x = .pointer (some ⟨b, o, none⟩)) (hi : ev f ix = .int k (i : Int)) (hlt : i < n) :
    (execOp (ev f) ⟨dst, .indexAddr t x ix, ty, ps, af, gd⟩).run P w = .ok (.value (.pointer (some ⟨b, o + i * s, none⟩))) w := by
  obtain ⟨hu, q, hq, hs⟩ := arrayOfT_spec ht
  simp [execOp, Instr.indexAt, Instr.sureAddr, hx, hi, asIntOf, run_underlying hu, run_sizeOf_of hq, hs, addr_add, hlt]

/-- A slice's base behind 's[l:..]'. -/
def baseAt (a : Option Addr) (cap l s : Nat) : Option Addr := if cap = l then a else a.map (·.add (l * s))
theorem x_slice {t : TypeId} {e s : Nat} {x lo hi : Operand} {a : Option Addr} {len cap l h : Nat} {k k' : IntKind} (ht : elemOfT P t = some (e, s)) (hx : ev f x = .slice a len cap) (hl : ev f lo = .int k (l : Int)) (hh : ev f hi = .int k' (h : Int))
    (h1 : l ≤ h) (h2 : h ≤ cap) :
    (execOp (ev f) ⟨dst, .slice t x (some lo) (some hi) none, ty, ps, af, gd⟩).run P w = .ok (.value (.slice (baseAt a cap l s) (h - l) (cap - l))) w := by
  obtain ⟨hu, q, hq, hs⟩ := elemOfT_spec ht
  simp [execOp, Instr.sliceAt, Instr.slice, Instr.sliceBounds, Instr.sliceBound, hx, hl, hh, asIntOf, run_underlying hu, run_sizeOf_of hq, hs, h1, h2, baseAt]
theorem x_sliceL {t : TypeId} {e s : Nat} {x lo : Operand} {a : Option Addr} {len cap l : Nat} {k : IntKind} (ht : elemOfT P t = some (e, s)) (hx : ev f x = .slice a len cap) (hl : ev f lo = .int k (l : Int))
    (h1 : l ≤ len) :
    (execOp (ev f) ⟨dst, .slice t x (some lo) none none, ty, ps, af, gd⟩).run P w = .ok (.value (.slice (baseAt a cap l s) (len - l) (cap - l))) w := by
  obtain ⟨hu, q, hq, hs⟩ := elemOfT_spec ht
  simp [execOp, Instr.sliceAt, Instr.slice, Instr.sliceBounds, Instr.sliceBound, hx, hl, asIntOf, run_underlying hu, run_sizeOf_of hq, hs, h1, baseAt]
theorem x_sliceH {t : TypeId} {e s : Nat} {x hi : Operand} {a : Option Addr} {len cap h : Nat} {k : IntKind} (ht : elemOfT P t = some (e, s)) (hx : ev f x = .slice a len cap) (hh : ev f hi = .int k (h : Int))
    (h2 : h ≤ cap) :
    (execOp (ev f) ⟨dst, .slice t x none (some hi) none, ty, ps, af, gd⟩).run P w = .ok (.value (.slice (baseAt a cap 0 s) h cap)) w := by
  obtain ⟨hu, q, hq, hs⟩ := elemOfT_spec ht
  simp [execOp, Instr.sliceAt, Instr.slice, Instr.sliceBounds, Instr.sliceBound, hx, hh, asIntOf, run_underlying hu, run_sizeOf_of hq, h2, baseAt]
theorem x_sliceArr {t : TypeId} {n e s : Nat} {x : Operand} {b o : Nat} (ht : arrayOfT P t = some (n, e, s)) (hx : ev f x = .pointer (some ⟨b, o, none⟩)) :
    (execOp (ev f) ⟨dst, .slice t x none none none, ty, ps, af, gd⟩).run P w = .ok (.value (.slice (some ⟨b, o, none⟩) n n)) w := by
  obtain ⟨hu, q, hq, hs⟩ := arrayOfT_spec ht
  simp [execOp, Instr.sliceAt, Instr.sliceBounds, Instr.sureAddr, hx, run_underlying hu, run_sizeOf_of hq, addr_add]
theorem x_sliceArrH {t : TypeId} {n e s : Nat} {x hi : Operand} {b o h : Nat} {k : IntKind} (ht : arrayOfT P t = some (n, e, s)) (hx : ev f x = .pointer (some ⟨b, o, none⟩)) (hh : ev f hi = .int k (h : Int)) (h2 : h ≤ n) :
    (execOp (ev f) ⟨dst, .slice t x none (some hi) none, ty, ps, af, gd⟩).run P w = .ok (.value (.slice (some ⟨b, o, none⟩) h n)) w := by
  obtain ⟨hu, q, hq, hs⟩ := arrayOfT_spec ht
  simp [execOp, Instr.sliceAt, Instr.sliceBounds, Instr.sliceBound, Instr.sureAddr, hx, hh, asIntOf, run_underlying hu, run_sizeOf_of hq, addr_add, h2]
theorem x_sliceArrL {t : TypeId} {n e s : Nat} {x lo : Operand} {b o l : Nat} {k : IntKind} (ht : arrayOfT P t = some (n, e, s)) (hx : ev f x = .pointer (some ⟨b, o, none⟩)) (hl : ev f lo = .int k (l : Int)) (h2 : l < n) :
    (execOp (ev f) ⟨dst, .slice t x (some lo) none none, ty, ps, af, gd⟩).run P w = .ok (.value (.slice (some ⟨b, o + l * s, none⟩) (n - l) (n - l))) w := by
  obtain ⟨hu, q, hq, hs⟩ := arrayOfT_spec ht
  have h3 : ¬ n = l := by omega
  simp [execOp, Instr.sliceAt, Instr.sliceBounds, Instr.sliceBound, Instr.sureAddr, hx, hl, asIntOf, run_underlying hu, run_sizeOf_of hq, hs, addr_add, Nat.le_of_lt h2, h3]

end

/-! ### What has changed between two worlds -/

/-- Of the blocks that were there only those of S may have turned. -/
structure Chg (S : List Nat) (w w' : World) : Prop where
  os : w'.os = w.os
  tape : w'.tape = w.tape
  output : w'.output = w.output
  size : w.heap.size ≤ w'.heap.size
  block : ∀ k, k < w.heap.size → k ∉ S → w'.heap[k]? = w.heap[k]?

section
variable {P : Program} {w w' w'' : World} {S S' : List Nat}
theorem Chg.refl (S : List Nat) (w : World) : Chg S w w := ⟨rfl, rfl, rfl, Nat.le_refl _, fun _ _ _ => rfl⟩
theorem Chg.trans (h : Chg S w w') (h' : Chg S' w' w'') (hS : ∀ k ∈ S', k ∈ S ∨ w.heap.size ≤ k) : Chg S w w'' :=
  ⟨h'.os.trans h.os, h'.tape.trans h.tape, h'.output.trans h.output, Nat.le_trans h.size h'.size, fun k hk hn =>
    (h'.block k (Nat.lt_of_lt_of_le hk h.size) (fun hm => (hS k hm).elim hn (fun h2 => by omega))).trans (h.block k hk hn)⟩
theorem Chg.trans0 (h : Chg S w w') (h' : Chg [] w' w'') : Chg S w w'' := h.trans h' (fun _ h => by cases h)
theorem Chg.mono (h : Chg S w w') (hS : ∀ k ∈ S, k ∈ S') : Chg S' w w' := ⟨h.os, h.tape, h.output, h.size, fun k hk hn => h.block k hk (fun hm => hn (hS k hm))⟩
/-- Blocks that were not there count for nothing. -/
theorem Chg.less (h : Chg S w w') (hS : ∀ k ∈ S, k ∈ S' ∨ w.heap.size ≤ k) : Chg S' w w' :=
  ⟨h.os, h.tape, h.output, h.size, fun k hk hn => h.block k hk (fun hm => (hS k hm).elim hn (fun h2 => by omega))⟩
theorem Chg.drew (S : List Nat) (w : World) : Chg S w w.drew := ⟨rfl, rfl, rfl, Nat.le_refl _, fun _ _ _ => rfl⟩
theorem Chg.alloc (S : List Nat) (w : World) (o : Obj) : Chg S w (w.alloc o) := ⟨rfl, rfl, rfl, by simp, fun k hk _ => heap_alloc_old w o k hk⟩
theorem Chg.setRow (w : World) (b : Nat) (c : Array Value) : Chg [b] w (w.setRow b c) :=
  ⟨rfl, rfl, rfl, by simp [World.setRow], fun k _ hn => setRow_other w b k c (fun e => hn (by simp [e]))⟩
theorem Chg.of_grownBy {row : Option Nat} (h : w.grownBy w' row) : Chg row.toList w w' :=
  ⟨h.os, h.tape, h.output, h.size, fun k hk hn => h.block k hk (fun e => hn (by simp [← e]))⟩
theorem Chg.at (h : Chg S w w') {b : Nat} {o : Obj} (hb : w.heap[b]? = some o) (hn : b ∉ S) : w'.heap[b]? = some o := by
  rw [h.block b (Array.getElem?_eq_some_iff.1 hb).1 hn]; exact hb
theorem Chg.lt (h : Chg S w w') {b : Nat} (hb : b < w.heap.size) : b < w'.heap.size := Nat.lt_of_lt_of_le hb h.size
theorem lt_of_at {b : Nat} {o : Obj} (hb : w.heap[b]? = some o) : b < w.heap.size := (Array.getElem?_eq_some_iff.1 hb).1
theorem Chg.cell (h : Chg S w w') {b o : Nat} {v : Value} (hb : w.cell? ⟨b, o, none⟩ = some v) (hn : b ∉ S) : w'.cell? ⟨b, o, none⟩ = some v := by
  rw [World.cell?_of_block (w := w) (h.block b (World.block_lt_of_cell? w _ hb) hn)]; exact hb
end

/-! ### Rows that are read: elements of one cell -/

/-- The slice v has these elements. -/
def Rw (w : World) (v : Value) (xs : List Value) : Prop :=
  ∃ a cap, v = .slice a xs.length cap ∧ xs.length ≤ cap ∧ cap ≤ maxLen ∧ ∀ j u, xs[j]? = some u → ∃ b o, a = some ⟨b, o, none⟩ ∧ w.cell? ⟨b, o + j, none⟩ = some u
abbrev u8 : Int → Value := Value.int .u8
abbrev u32 : Int → Value := Value.int .u32
abbrev i64 : Int → Value := Value.int .i64
/-- The slice v holds these bytes. -/
abbrev Bt (w : World) (v : Value) (bs : List Int) : Prop := Rw w v (bs.map u8)

section
variable {P : Program} {w w' : World} {v : Value} {xs : List Value}
theorem Rw.kept (h : Rw w v xs) (hk : ∀ b, v.ownBlock = some b → w'.heap[b]? = w.heap[b]?) : Rw w' v xs := by
  obtain ⟨a, cap, rfl, h1, h2, h3⟩ := h
  refine ⟨a, cap, rfl, h1, h2, fun j u hu => ?_⟩
  obtain ⟨b, o, rfl, hc⟩ := h3 j u hu
  exact ⟨b, o, rfl, by rw [World.cell?_of_block (w := w) (hk b rfl)]; exact hc⟩
theorem Rw.chg {S : List Nat} (h : Rw w v xs) (hc : Chg S w w') (hS : ∀ b, v.ownBlock = some b → b ∉ S) : Rw w' v xs := by
  obtain ⟨a, cap, rfl, h1, h2, h3⟩ := h
  refine ⟨a, cap, rfl, h1, h2, fun j u hu => ?_⟩
  obtain ⟨b, o, rfl, hcell⟩ := h3 j u hu
  exact ⟨b, o, rfl, hc.cell hcell (hS b rfl)⟩
theorem Rw.chg0 (h : Rw w v xs) (hc : Chg [] w w') : Rw w' v xs := h.chg hc (fun _ _ h => by cases h)
theorem Rw.nil (w : World) : Rw w (.slice none 0 0) [] := ⟨none, 0, rfl, Nat.le_refl _, Nat.zero_le _, fun j u h => by simp at h⟩
theorem Rw.len (h : Rw w v xs) : ∃ a cap, v = .slice a xs.length cap := let ⟨a, cap, h, _⟩ := h; ⟨a, cap, h⟩
theorem Rw.of_own {base : Nat} {e : TypeId} {n : Nat} (h : w.ownsRow base e 1 v n xs) : Rw w v xs := by
  obtain ⟨hl, h⟩ := h
  have hn : xs.length = n := by omega
  subst hn
  rcases h with ⟨rfl, h0⟩ | ⟨g, cap, cur, rfl, _, hg, h1, h2, _, ht⟩
  · rw [List.eq_nil_of_length_eq_zero h0]; exact Rw.nil w
  · refine ⟨_, cap, rfl, h1, h2, fun j u hu => ⟨g, 0, rfl, ?_⟩⟩
    rw [Nat.zero_add]
    refine cell_at hg ?_
    rw [← ht, List.getElem?_take] at hu
    split at hu
    · simpa using hu
    · cases hu
theorem Rw.of_block {b o n cap : Nat} {c : Array Value} {T : TypeId} {z : Nat × Nat} (hb : w.heap[b]? = some (.cells c T z)) (hn : xs.length = n) (hcap : n ≤ cap) (hm : cap ≤ maxLen)
    (hx : ∀ j u, xs[j]? = some u → c[o + j]? = some u) : Rw w (.slice (some ⟨b, o, none⟩) n cap) xs :=
  ⟨_, cap, by rw [hn], by omega, hm, fun j u hu => ⟨b, o, rfl, cell_at hb (hx j u hu)⟩⟩
/-- 's[l:h]' reads as a part. -/
theorem Rw.slice {a : Option Addr} {len cap l h : Nat} (hr : Rw w (.slice a len cap) xs) (hl : l ≤ h) (hh : h ≤ len) :
    Rw w (.slice (baseAt a cap l 1) (h - l) (cap - l)) ((xs.take h).drop l) := by
  obtain ⟨a', cap', hv, h1, h2, h3⟩ := hr
  simp only [Value.slice.injEq] at hv
  obtain ⟨rfl, rfl, rfl⟩ := hv
  refine ⟨baseAt a cap l 1, cap - l, by simp [Nat.min_eq_left hh], by simp only [List.length_drop, List.length_take]; omega, by omega, fun j u hu => ?_⟩
  have hj : xs[l + j]? = some u ∧ l + j < h := by
    rw [List.getElem?_drop, List.getElem?_take] at hu
    split at hu
    · exact ⟨hu, by assumption⟩
    · cases hu
  obtain ⟨b, o, rfl, hc⟩ := h3 (l + j) u hj.1
  have hlc : ¬ cap = l := by omega
  exact ⟨b, o + l, by simp [baseAt, hlc, addr_add], by rw [Nat.add_assoc]; exact hc⟩
theorem ownBlock_baseAt {a : Option Addr} {n n' cap cap' c l s : Nat} : (Value.slice (baseAt a c l s) n cap).ownBlock = (Value.slice a n' cap').ownBlock := by
  cases a with
  | none => simp [baseAt, Value.ownBlock]
  | some ad => unfold baseAt; split <;> simp [Value.ownBlock, Addr.add]; split <;> rfl
/-- What an append of the row reads. -/
theorem Rw.source {a : Addr} {n cap : Nat} (h : Rw w (.slice (some a) n cap) xs) : ∀ j u, xs[j]? = some u → w.cell? (a.add j) = some u := fun j u hu => by
  obtain ⟨a', cap', hv, _, _, h3⟩ := h
  simp only [Value.slice.injEq] at hv
  obtain ⟨hv, _, _⟩ := hv
  obtain ⟨b, o, ha, hc⟩ := h3 j u hu
  rw [ha] at hv
  cases hv
  rw [addr_add]; exact hc

/-! ### append and copy, elements of one cell -/

/-- The element type of a slice type, its zero value, its bytes. -/
def elem1 (P : Program) (t : TypeId) : Option (TypeId × Value × Nat) :=
  match P.underlying t with
  | some (.slice e) => match P.info? e with
    | some i => match i.zero with
      | some z => if Nat.beq i.size 1 && Nat.beq z.cells.size 1 then some (e, z, i.bytes) else none
      | none => none
    | none => none
  | _ => none
theorem elem1_spec {t e : TypeId} {z : Value} {by' : Nat} (h : elem1 P t = some (e, z, by')) :
    P.underlying t = some (.slice e) ∧ ∃ i, P.info? e = some i ∧ i.zero = some z ∧ i.size = 1 ∧ i.bytes = by' ∧ z.cells.size = 1 := by
  unfold elem1 at h
  split at h
  · rename_i e' he
    cases hi : P.info? e' with
    | none => simp [hi] at h
    | some i =>
      cases hz : i.zero with
      | none => simp [hi, hz] at h
      | some z' =>
        simp only [hi, hz] at h
        split at h
        · rename_i hb
          simp only [Bool.and_eq_true] at hb
          simp only [Option.some.injEq, Prod.mk.injEq] at h
          obtain ⟨rfl, rfl, rfl⟩ := h
          exact ⟨he, i, hi, hz, Nat.eq_of_beq_eq_true hb.1, rfl, Nat.eq_of_beq_eq_true hb.2⟩
        · cases h
  · cases h

/-- What an append to a slice of the call's own leaves. -/
structure Appended (base : Nat) (e : TypeId) (v : Value) (xs : List Value) (w : World) (v' : Value) (w' : World) : Prop where
  own : w'.ownsRow base e 1 v' xs.length xs
  chg : Chg v.ownBlock.toList w w'
  nil : v' = .slice none 0 0 ↔ v = .slice none 0 0 ∧ xs = []
  block : ∀ b, v'.ownBlock = some b → v.ownBlock = some b ∨ w.heap.size ≤ b

theorem ownsRow_block {w : World} {base : Nat} {e : TypeId} {n : Nat} {v : Value} {xs : List Value} (h : w.ownsRow base e 1 v n xs) {b : Nat} (hb : v.ownBlock = some b) : base ≤ b ∧ b < w.heap.size := h.lt b hb

theorem run_append1 (t ty : TypeId) {e : TypeId} {z : Value} {by' : Nat} (he : elem1 P t = some (e, z, by')) {w : World} {base n : Nat} {v x : Value} {xs ys : List Value} (hown : w.ownsRow base e 1 v n xs) (hx : Rw w x ys)
    (h1 : ∀ u ∈ ys, u.oneCell' = true) (h63 : n + ys.length ≤ maxLen) (hbytes : (n + ys.length) * by' ≤ 140737488355328) (hbase : base ≤ w.heap.size) :
    ∃ v' w', (Builtin.append_ #[t, t] ty #[v, x]).run P w = .ok v' w' ∧ Appended base e v (xs ++ ys) w v' w' := by
  obtain ⟨hu, i, hi, hz, hsz, hby, hzs⟩ := elem1_spec he
  have hxl : xs.length = n := by have := hown.1; omega
  have h64 : n + ys.length ≤ 9223372036854775807 := by simp only [maxLen] at h63; omega
  obtain ⟨a, cap, rfl, hlc, hm, hcells⟩ := hx
  have hx : Rw w (.slice a ys.length cap) ys := ⟨a, cap, rfl, hlc, hm, hcells⟩
  cases a with
  | some a =>
    by_cases hroom : ∃ g c cur, v = .slice (some ⟨g, 0, none⟩) n c ∧ w.heap[g]? = some (.cells cur e (0, 0)) ∧ n + ys.length ≤ c
    · obtain ⟨v', w', hr, h2, h3, h4⟩ := run_append_own (P := P) w base t ty e i z 1 by' hu hi hz hsz hby hzs (by decide) v n xs hown a ys.length cap ys (by simp) hx.source h1 h63 hbytes hbase
      obtain ⟨g, c, cur, rfl, hg, hroom⟩ := hroom
      have hr2 := run_append_room (P := P) w t ty e i hu hi g n c cur hg a ys.length cap ys (by simp [hsz]) hx.source h1 hroom (by
        rcases hown.2 with ⟨hv, _⟩ | ⟨g', cap', cur', hv, _, hg', _, _, hcs, _⟩
        · cases hv
        · simp only [Value.slice.injEq, Option.some.injEq, Addr.mk.injEq, and_true] at hv
          obtain ⟨rfl, _, rfl⟩ := hv
          rw [hg] at hg'
          simp only [Option.some.injEq, Obj.cells.injEq] at hg'
          obtain ⟨rfl, _⟩ := hg'
          rw [hsz, hcs]; omega)
      rw [hr] at hr2
      simp only [Result.ok.injEq] at hr2
      obtain ⟨rfl, rfl⟩ := hr2
      refine ⟨_, _, hr, ⟨by simpa [hxl] using h2, Chg.of_grownBy h3, ?_, fun b hb => .inl (by simpa [Value.ownBlock] using hb)⟩⟩
      simp
    · obtain ⟨v', w', hr, h2, h3, h4⟩ := run_append_own (P := P) w base t ty e i z 1 by' hu hi hz hsz hby hzs (by decide) v n xs hown a ys.length cap ys (by simp) hx.source h1 h63 hbytes hbase
      refine ⟨v', w', hr, ⟨by simpa [hxl] using h2, Chg.of_grownBy h3, ?_, fun b hb => .inr ?_⟩⟩
      · rw [h4]
        constructor
        · rintro ⟨rfl, h⟩
          refine ⟨rfl, ?_⟩
          have h0 : n = 0 := by
            rcases hown.2 with ⟨_, h0⟩ | ⟨g', cap', cur', hv, _⟩
            · exact h0
            · cases hv
          rw [List.eq_nil_of_length_eq_zero (by omega : xs.length = 0), List.eq_nil_of_length_eq_zero h]; rfl
        · rintro ⟨rfl, h⟩
          exact ⟨rfl, by rw [(List.append_eq_nil_iff.1 h).2]; rfl⟩
      ·
        rcases hown.2 with ⟨rfl, h0⟩ | ⟨g, c, cur, rfl, hbg, hg, hnc, hcm, hcs, htk⟩
        · subst h0
          have hx0 : xs = [] := List.eq_nil_of_length_eq_zero hxl
          subst hx0
          by_cases hm0 : ys.length = 0
          · have : v' = .slice none 0 0 := h4.2 ⟨rfl, hm0⟩
            subst this
            simp [Value.ownBlock] at hb
          · have hr2 := run_append_nil (P := P) w t ty e i z hu hi hz a ys.length cap ys (by simp [hsz]) hx.source (by omega) (by omega) (by rw [hby]; exact Nat.le_trans (Nat.le_trans (Nat.mul_le_mul_right by' (Nat.le_add_left _ _)) hbytes) (by omega))
            rw [hr] at hr2
            simp only [Result.ok.injEq] at hr2
            obtain ⟨rfl, rfl⟩ := hr2
            simp [Value.ownBlock] at hb
            omega
        · have hroom' : ¬ n + ys.length ≤ c := fun h => hroom ⟨g, c, cur, rfl, hg, h⟩
          have holds : ∀ j u, xs[j]? = some u → w.cell? ((⟨g, 0, none⟩ : Addr).add j) = some u := hown.cells (g := g) rfl
          have hr2 := run_append_grow (P := P) w t ty e i z hu hi hz ⟨g, 0, none⟩ n c xs (by simp [hxl, hsz]) holds a ys.length cap ys (by simp [hsz]) hx.source (by omega) (by omega) (growslice_fits (by omega) (by rw [hby]; exact hbytes))
          rw [hr] at hr2
          simp only [Result.ok.injEq] at hr2
          obtain ⟨rfl, rfl⟩ := hr2
          simp [Value.ownBlock] at hb
          omega
  | none =>
    have h0 : ys = [] := by
      cases ys with
      | nil => rfl
      | cons y ys => obtain ⟨b, o, hab, _⟩ := hcells 0 y rfl; cases hab
    subst h0
    have hn0 : n + 0 ≤ maxLen := h63
    refine ⟨v, w, ?_, ⟨by simpa [hxl] using hown, Chg.refl _ _, ?_, fun b hb => .inl hb⟩⟩
    · rcases hown.2 with ⟨rfl, h0⟩ | ⟨g, c, cur, rfl, hbg, hg, hnc, hcm, hcs, htk⟩
      · subst h0
        simp [Builtin.append_, run_underlying hu, sizeOf, typeInfo, hi, Builtin.lenOf, Builtin.firstCells]
      · simp [Builtin.append_, run_underlying hu, sizeOf, typeInfo, hi, Builtin.lenOf, Builtin.firstCells, hnc, storeCells]
    · constructor
      · rintro rfl
        refine ⟨rfl, ?_⟩
        rcases hown.2 with ⟨_, h0⟩ | ⟨g', cap', cur', hv, _⟩
        · rw [List.eq_nil_of_length_eq_zero (by omega : xs.length = 0)]; rfl
        · cases hv
      · exact fun h => h.1

theorem L_append {ops : Array Oper} {N : Fr → World → Prop} {f : Fr} {w : World} {l : List Oper} {dst : Tmp} {ps : String} {af : Array Edge} {gd : Option (Nat × Bool)} {ty t : TypeId} {s x : Operand}
    {e : TypeId} {z : Value} {by' : Nat} {base n : Nat} {v y : Value} {xs ys : List Value} (he : elem1 P t = some (e, z, by')) (hw : Region.wanted ⟨some dst, .call ⟨.builtin .append, #[s, x], #[t, t]⟩, ty, ps, af, gd⟩ (yieldedF ops f) = true)
    (hs : ev f s = v) (hy : ev f x = y) (hown : w.ownsRow base e 1 v n xs) (hx : Rw w y ys)
    (h1 : ∀ u ∈ ys, u.oneCell' = true) (h63 : n + ys.length ≤ maxLen) (hbytes : (n + ys.length) * by' ≤ 140737488355328) (hbase : base ≤ w.heap.size)
    (h : ∀ v' w', Appended base e v (xs ++ ys) w v' w' → L P ops false N l (upd f dst v') w') :
    L P ops false N (⟨some dst, .call ⟨.builtin .append, #[s, x], #[t, t]⟩, ty, ps, af, gd⟩ :: l) f w := by
  obtain ⟨v', w', hr, ha⟩ := run_append1 t ty he hown hx h1 h63 hbytes hbase
  refine L_new hw (x_builtin (xs := [s, x]) (r := [v, y]) (by simp [hs, hy]) _ rfl ?_) (h v' w' ha)
  simp only [builtin, Sem.run_bind, hr, Result.andThen_ok, Sem.run_pure]
end

/-! ### Ranges -/
theorem wr64 {a c : Int} (h : a = c) (h1 : -9223372036854775808 ≤ c) (h2 : c ≤ 9223372036854775807) : IntKind.i64.wrap a = c := by
  subst h; exact IntWalk.i64_in a ⟨h1, h2⟩
theorem wru64 {a c : Int} (h : a = c) (h1 : 0 ≤ c) (h2 : c ≤ 18446744073709551615) : IntKind.u64.wrap a = c := by
  subst h; exact IntWalk.u64_in a ⟨h1, h2⟩
theorem wru32 {a c : Int} (h : a = c) (h1 : 0 ≤ c) (h2 : c ≤ 4294967295) : IntKind.u32.wrap a = c := by
  subst h; exact IntWalk.u32_in a ⟨h1, h2⟩
theorem wru8 {a c : Int} (h : a = c) (h1 : 0 ≤ c) (h2 : c ≤ 255) : IntKind.u8.wrap a = c := by
  subst h; exact IntWalk.u8_in a ⟨h1, h2⟩
theorem quo64 {a b c : Int} (h : a / b = c) (ha : 0 ≤ a) (ha2 : a ≤ 9223372036854775807) (hb : 1 ≤ b) : IntKind.i64.wrap (a.tdiv b) = c := by
  rw [IntWalk.i64_quo a b ⟨ha, ha2, hb⟩]; exact h

end E
end Go.Proofs.Ytinoebjhcmeppaa
