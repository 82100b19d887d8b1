/- The engine of this work's walks: code and operations of the model run over frames that are functions, memory known by whole blocks. General: no program is named. -/
import Derived.StillTail
import Derived.OrdersHeld
import Derived.Laws.World
import Derived.Laws.Rows
import Derived.Laws.Append
import Derived.KernelRfl
namespace Go.Proofs.Ytinoebjhcmeppaa
namespace E

/-! ### Frames -/

abbrev Fr := Nat → Value
def upd (f : Fr) (d : Nat) (v : Value) : Fr := fun t => bif Nat.beq t d then v else f t
def updo (f : Fr) : Option Nat → Value → Fr
  | some d, v => upd f d v
  | none, _ => f
def ev (f : Fr) : Operand → Value
  | .tmp t => f t
  | .const v => v
  | .global g => .pointer (some ⟨g, 0, none⟩)
  | .func k => .func (.func k) #[] #[]
def fr (a : Act) : Fr := fun t => a.tmps.getD t undef
structure Is (n : Nat) (a : Act) : Prop where
  size : a.tmps.size = n
  defers : a.defers = []

theorem ev_fr (a : Act) : a.eval = ev (fr a) := by
  funext x; cases x <;> rfl

def dstOk (n : Nat) (o : Oper) : Bool := match o.dst with | some d => Nat.blt d n | none => true

theorem fr_put {n : Nat} {a : Act} (h : Is n a) {o : Oper} (hd : dstOk n o = true) (v : Value) : Is n (a.put o.dst v) ∧ fr (a.put o.dst v) = updo (fr a) o.dst v := by
  cases hdst : o.dst with
  | none => exact ⟨by simpa [Act.put] using h, by simp [Act.put, updo]⟩
  | some d =>
    have hlt : d < a.tmps.size := by
      have := hd; simp [dstOk, hdst] at this; rw [h.size]; exact this
    refine ⟨⟨by simp [Act.put, h.size], by simpa [Act.put] using h.defers⟩, ?_⟩
    funext t
    simp only [fr, Act.put, updo, upd]
    by_cases e : t = d
    · subst e
      simp [hlt]
    · have : Nat.beq t d = false := by
        cases hb : Nat.beq t d with
        | false => rfl
        | true => exact absurd (Nat.eq_of_beq_eq_true hb) e
      rw [this]
      simp [Ne.symm e]

def yieldedF (ops : Array Oper) (f : Fr) (j : Nat) : Option Bool :=
  match (ops[j]?).bind (·.dst) with
  | some t => match f t with
    | .bool b => some b
    | _ => none
  | none => none

theorem yielded_fr (ops : Array Oper) (a : Act) (j : Nat) : yielded ops a.tmps j = yieldedF ops (fr a) j := by
  unfold yielded yieldedF fr
  cases h : (ops[j]?).bind (·.dst) with
  | none => simp
  | some t =>
    simp only [Option.bind_some]
    cases h2 : a.tmps[t]? with
    | none => simp [h2, undef]
    | some v => simp only [Array.getD_eq_getD_getElem?, h2, Option.getD_some]; cases v <;> rfl

/-! ### Code -/

def post (n : Nat) (N R : Fr → World → Prop) (X : Nat → Fr → World → Prop) : Exit → Act → World → Prop
  | .normal, a, w => Is n a ∧ N (fr a) w
  | .ret, a, w => Is n a ∧ R (fr a) w
  | .exit i, a, w => Is n a ∧ X i (fr a) w
  | _, _, _ => False

def W (P : Program) (n : Nat) (c : Code) (N R : Fr → World → Prop) (X : Nat → Fr → World → Prop) (f : Fr) (w : World) : Prop :=
  ∀ a, Is n a → fr a = f → c.wp P (post n N R X) a w

section
variable {P : Program} {n : Nat} {N R : Fr → World → Prop} {X : Nat → Fr → World → Prop} {f : Fr} {w : World}

theorem W_mono {c : Code} {N' R' : Fr → World → Prop} {X' : Nat → Fr → World → Prop} (h : W P n c N R X f w) (hN : ∀ f w, N f w → N' f w) (hR : ∀ f w, R f w → R' f w)
    (hX : ∀ i f w, X i f w → X' i f w) : W P n c N' R' X' f w := fun a ha hf =>
  wp_mono (h a ha hf) fun e a' w' q => by
    cases e with
    | normal => exact ⟨q.1, hN _ _ q.2⟩
    | ret => exact ⟨q.1, hR _ _ q.2⟩
    | exit i => exact ⟨q.1, hX _ _ _ q.2⟩
    | goto l => exact q
    | panic c => exact q
    | outgrown => exact q

theorem W_skip (h : N f w) : W P n .skip N R X f w := fun _ ha hf => wp_skip ⟨ha, hf ▸ h⟩
theorem W_ret (h : R f w) : W P n .ret N R X f w := fun _ ha hf => wp_ret ⟨ha, hf ▸ h⟩
theorem W_exit {i : Nat} (h : X i f w) : W P n (.exit i) N R X f w := fun _ ha hf => wp_exit ⟨ha, hf ▸ h⟩
theorem W_seq {x y : Code} (h : W P n x (W P n y N R X) R X f w) : W P n (.seq x y) N R X f w := fun a ha hf =>
  wp_seq (wp_mono (h a ha hf) fun e a' w' q => by
    cases e with
    | normal => exact q.2 a' q.1 rfl
    | ret => exact q
    | exit i => exact q
    | goto l => exact q
    | panic c => exact q
    | outgrown => exact q)
theorem W_cond {c : Operand} {x y : Code} {b : Bool} (hc : ev f c = .bool b) (h : W P n (if b then x else y) N R X f w) : W P n (.cond c x y) N R X f w := fun a ha hf =>
  wp_cond (t := b) (by rw [ev_fr, hf]; exact hc) (h a ha hf)
theorem W_true {c : Operand} {x y : Code} (hc : ev f c = .bool true) (h : W P n x N R X f w) : W P n (.cond c x y) N R X f w := W_cond hc h
theorem W_false {c : Operand} {x y : Code} (hc : ev f c = .bool false) (h : W P n y N R X f w) : W P n (.cond c x y) N R X f w := W_cond hc h
theorem W_block {i : Nat} {c : Code} (h : W P n c N R (fun j => bif Nat.beq j i then N else X j) f w) : W P n (.block i c) N R X f w := fun a ha hf =>
  wp_block (wp_mono (h a ha hf) fun e a' w' q => by
    cases e with
    | normal => exact q
    | ret => exact q
    | exit j =>
      simp only [Exit.inBlock]
      obtain ⟨q1, q2⟩ := q
      by_cases e : j = i
      · subst e; rw [Nat.beq_refl] at q2; rw [if_pos rfl]; exact ⟨q1, q2⟩
      · have hb : Nat.beq j i = false := by
          cases hb : Nat.beq j i with
          | false => rfl
          | true => exact absurd (Nat.eq_of_beq_eq_true hb) e
        rw [hb] at q2; rw [if_neg e]; exact ⟨q1, q2⟩
    | goto l => exact q
    | panic c => exact q
    | outgrown => exact q)

theorem W_loop {c : Code} (I : Nat → Fr → World → Prop) (m : Nat) (h0 : I m f w)
    (round : ∀ m f w, I m f w → W P n c (fun f' w' => ∃ m', m' < m ∧ I m' f' w') R X f w) : W P n (.loop c) N R X f w := by
  intro a ha hf b k cs
  have key : ∀ m a w, Is n a → I m (fr a) w →
      ∃ e a' w', post n N R X e a' w' ∧ Arrives P (lone (b.at a (.code c :: .inLoop c :: k)) cs w) b k cs e a' w' := by
    intro m
    induction m using Nat.strongRecOn with
    | _ m ih =>
      intro a w ha hI
      obtain ⟨e, a₁, w₁, hq, harr⟩ := round m (fr a) w hI a ha rfl b (.inLoop c :: k) cs
      cases e with
      | normal =>
        obtain ⟨ha1, m', hlt, hI₁⟩ := hq
        obtain ⟨e₂, a₂, w₂, hq₂, harr₂⟩ := ih m' hlt a₁ w₁ ha1 hI₁
        exact ⟨e₂, a₂, w₂, hq₂, .of_steps (Steps.trans harr (.one step_inLoop)) harr₂⟩
      | exit id => exact ⟨.exit id, a₁, w₁, hq, .pass (x := .inLoop c) rfl (fun _ _ => .inl (by simp)) harr⟩
      | goto l => exact hq.elim
      | ret => exact ⟨.ret, a₁, w₁, hq, .pass (x := .inLoop c) rfl (fun _ _ => .inl (by simp)) harr⟩
      | panic ch => exact hq.elim
      | outgrown => exact hq.elim
  obtain ⟨e, a', w', hq, harr⟩ := key m a w ha (hf ▸ h0)
  exact ⟨e, a', w', hq, .of_steps (.one step_loop) harr⟩

/-- What a result variable holds at the return. -/
theorem calls_of_W {g : FuncId} {fn : Func} {c : Code} {args : List Value} {Rt : Ending → World → Prop} (hf : P.funcs[g]? = some fn) (hb : fn.body = some c) (hn : fn.ntmps = n)
    (hlen : args.length ≤ n) (h : W P n c (fun f w => ∃ v, (∀ t, (∀ i, t.getD i undef = f i) → (results fn t).run P w = .ok v w) ∧ Rt (.returned v) w)
      (fun f w => ∃ v, (∀ t, (∀ i, t.getD i undef = f i) → (results fn t).run P w = .ok v w) ∧ Rt (.returned v) w) (fun _ _ _ => False) (fun t => args.getD t undef) w) :
    Calls P g args.toArray w Rt := by
  refine calls_of_wp hf hb (wp_mono (h _ ⟨?_, rfl⟩ ?_) fun e a w' q => ?_)
  · simp [hn]; omega
  · funext t
    simp only [fr]
    by_cases ht : t < args.length
    · simp [Array.getElem?_append, ht]
    · have : args[t]? = none := List.getElem?_eq_none (by omega)
      simp only [Array.getD_eq_getD_getElem?, Array.getElem?_append, List.size_toArray, ht, if_false, List.getD_eq_getElem?_getD, this, Option.getD_none]
      by_cases h2 : t - args.length < fn.ntmps - args.length
      · simp [h2]
      · simp [h2]
  · cases e with
    | normal => obtain ⟨ha, v, hv, hR⟩ := q; exact ⟨ha.defers, v, hv _ (fun _ => rfl), hR⟩
    | ret => obtain ⟨ha, v, hv, hR⟩ := q; exact ⟨ha.defers, v, hv _ (fun _ => rfl), hR⟩
    | exit i => exact q.2.elim
    | goto l => exact q
    | panic ch => exact q.elim
    | outgrown => exact q.elim

end

/-! ### Regions in the order of the text, and regions that draw their order and only read (ahead of a tail) -/

/-- One operation: 'st': it must leave the world as it is. -/
def stepF (P : Program) (st : Bool) (o : Oper) (f : Fr) (w : World) (next : Fr → World → Prop) : Prop :=
  match (execOp (ev f) o).run P w with
  | .ok (.value v) w' => (st = true → w' = w) ∧ next (updo f o.dst v) w'
  | .ok .skip w' => (st = true → w' = w) ∧ next (updo f o.dst undef) w'
  | .ok (.enter g args) w' => (st = true → w' = w) ∧
      ((∃ v, Calls P g args w' (fun e w'' => e = .returned v ∧ w'' = w') ∧ next (updo f o.dst v) w') ∨
       (st = false ∧ Calls P g args w' (fun e w'' => ∃ v, e = .returned v ∧ next (updo f o.dst v) w'')))
  | _ => False

def L (P : Program) (ops : Array Oper) (st : Bool) (N : Fr → World → Prop) : List Oper → Fr → World → Prop
  | [], f, w => N f w
  | o :: l, f, w => if Region.wanted o (yieldedF ops f) = true then stepF P st o f w (L P ops st N l) else L P ops st N l (updo f o.dst undef) w

section
variable {P : Program} {n : Nat} {ops : Array Oper} {N R : Fr → World → Prop} {X : Nat → Fr → World → Prop} {f : Fr} {w : World}

theorem yielded_fun (ops : Array Oper) (a : Act) : yielded ops a.tmps = yieldedF ops (fr a) := funext (yielded_fr ops a)

theorem wpList_of_L {N' : Exit → Act → World → Prop} {st : Bool} (hN : ∀ a w, Is n a → N (fr a) w → N' .normal a w) : ∀ (l : List Oper), l.all (dstOk n) = true → ∀ (a : Act) (w : World), Is n a → L P ops st N l (fr a) w → wpList P ops N' l a w
  | [], _, a, w, ha, h => hN a w ha h
  | o :: l, hd, a, w, ha, h => by
    simp only [List.all_cons, Bool.and_eq_true] at hd
    have ih := wpList_of_L (N' := N') (st := st) hN l hd.2
    refine wpList_step fun K hK => ?_
    rw [yielded_fun]
    unfold L at h
    by_cases hw : Region.wanted o (yieldedF ops (fr a)) = true
    · rw [if_pos hw] at h ⊢
      unfold stepF at h
      unfold Oper.wp
      rw [ev_fr]
      generalize (execOp (ev (fr a)) o).run P w = r at h ⊢
      cases r with
      | halt x w' => exact h.elim
      | ok nx w' =>
        cases nx <;> simp only at h <;> try exact h.elim
        case value v =>
          obtain ⟨h1, h2⟩ := fr_put ha hd.1 v
          exact hK _ _ (ih _ _ h1 (h2 ▸ h.2))
        case skip =>
          obtain ⟨h1, h2⟩ := fr_put ha hd.1 undef
          exact hK _ _ (ih _ _ h1 (h2 ▸ h.2))
        case enter g args =>
          rcases h.2 with ⟨v, hc, hn⟩ | ⟨_, hc⟩
          · refine hc.mono fun e w'' ⟨he, hw''⟩ => ?_
            subst he; subst hw''
            obtain ⟨h1, h2⟩ := fr_put ha hd.1 v
            exact hK _ _ (ih _ _ h1 (h2 ▸ hn))
          · refine hc.mono fun e w'' ⟨v, he, hn⟩ => ?_
            subst he
            obtain ⟨h1, h2⟩ := fr_put ha hd.1 v
            exact hK _ _ (ih _ _ h1 (h2 ▸ hn))
    · rw [if_neg hw] at h ⊢
      obtain ⟨h1, h2⟩ := fr_put ha hd.1 undef
      exact hK _ _ (ih _ _ h1 (h2 ▸ h))

theorem wpStill_of_L {Q : Act → Prop} {w0 : World} (hN : ∀ a, Is n a → N (fr a) w0 → Q a) : ∀ (l : List Oper), l.all (dstOk n) = true → ∀ (a : Act), Is n a → L P ops true N l (fr a) w0 → wpStill P ops w0 Q l a
  | [], _, a, ha, h => hN a ha h
  | o :: l, hd, a, ha, h => by
    simp only [List.all_cons, Bool.and_eq_true] at hd
    have ih := wpStill_of_L (Q := Q) hN l hd.2
    unfold wpStill
    rw [yielded_fun]
    unfold L at h
    by_cases hw : Region.wanted o (yieldedF ops (fr a)) = true
    · rw [if_pos hw] at h ⊢
      unfold stepF at h
      unfold Oper.still
      rw [ev_fr]
      generalize (execOp (ev (fr a)) o).run P w0 = r at h ⊢
      cases r with
      | halt x w' => exact h.elim
      | ok nx w' =>
        cases nx <;> simp only at h <;> try exact h.elim
        case value v =>
          obtain ⟨h1, h2⟩ := fr_put ha hd.1 v
          have hw' := h.1 trivial
          exact ⟨hw', ih _ h1 (h2 ▸ hw' ▸ h.2)⟩
        case skip =>
          obtain ⟨h1, h2⟩ := fr_put ha hd.1 undef
          have hw' := h.1 trivial
          exact ⟨hw', ih _ h1 (h2 ▸ hw' ▸ h.2)⟩
        case enter g args =>
          have hw' := h.1 trivial
          subst hw'
          rcases h.2 with ⟨v, hc, hn⟩ | ⟨hf, _⟩
          · obtain ⟨h1, h2⟩ := fr_put ha hd.1 v
            exact ⟨rfl, v, hc, ih _ h1 (h2 ▸ hn)⟩
          · cases hf
    · rw [if_neg hw] at h ⊢
      obtain ⟨h1, h2⟩ := fr_put ha hd.1 undef
      exact ih _ h1 (h2 ▸ h)

theorem W_region {id : Nat} {l : List Oper} (hd : l.all (dstOk n) = true) (h : L P l.toArray false N l f w) : W P n (.region id l.toArray false) N R X f w := fun a ha hf =>
  wp_region_lit (wpList_of_L (fun _ _ ha h => ⟨ha, h⟩) l hd a w ha (hf ▸ h))
/-- A region that draws its order, all of whose operations leave the world alone. -/
theorem W_still {id : Nat} {l : List Oper} (hm : P.follows .mixedOrders = true) (hB : Region.lexB .any l.toArray = true) (hd : l.all (dstOk n) = true)
    (h : L P l.toArray true N l f w.drew) : W P n (.region id l.toArray true) N R X f w := fun a ha hf =>
  wp_region_still (w := w) hm hB (by
    exact wpStill_of_L (ops := l.toArray) (w0 := w.drew) (Q := fun a' => post n N R X .normal a' w.drew) (fun _ ha h => ⟨ha, h⟩) l hd a ha (hf ▸ h))
/-- The same ahead of a tail in a forced order. -/
theorem W_tail {id : Nat} {l : List Oper} (k : Nat) (hm : P.follows .mixedOrders = true) (hB : Region.lexTailB .any l.toArray k = true) (hd : l.all (dstOk n) = true)
    (h : L P l.toArray true (fun f w => L P l.toArray false N (l.drop k) f w) (l.take k) f w.drew) : W P n (.region id l.toArray true) N R X f w := fun a ha hf => by
  have hd1 : (l.take k).all (dstOk n) = true := by
    rw [List.all_eq_true] at hd ⊢; exact fun x hx => hd x (List.mem_of_mem_take hx)
  have hd2 : (l.drop k).all (dstOk n) = true := by
    rw [List.all_eq_true] at hd ⊢; exact fun x hx => hd x (List.mem_of_mem_drop hx)
  refine wp_region_still_tail (w := w) k hm hB ?_
  exact wpStill_of_L (ops := l.toArray) (w0 := w.drew) (fun a ha h => wpList_of_L (n := n) (fun a w ha h => ⟨ha, h⟩) _ hd2 a w.drew ha h) (l.take k) hd1 a ha (hf ▸ h)

/-! ### One operation at a time -/

theorem L_nil {st : Bool} (h : N f w) : L P ops st N [] f w := h
section
variable {d : Tmp} {op : Op} {ty : TypeId} {ps : String} {af : Array Edge} {gd : Option (Nat × Bool)} {l : List Oper}
theorem L_val {st : Bool} {v : Value} (hw : Region.wanted ⟨some d, op, ty, ps, af, gd⟩ (yieldedF ops f) = true) (hx : (execOp (ev f) ⟨some d, op, ty, ps, af, gd⟩).run P w = .ok (.value v) w)
    (h : L P ops st N l (upd f d v) w) : L P ops st N (⟨some d, op, ty, ps, af, gd⟩ :: l) f w := by
  unfold L; rw [if_pos hw]; unfold stepF; rw [hx]; exact ⟨fun _ => rfl, h⟩
theorem L_new {v : Value} {w' : World} (hw : Region.wanted ⟨some d, op, ty, ps, af, gd⟩ (yieldedF ops f) = true) (hx : (execOp (ev f) ⟨some d, op, ty, ps, af, gd⟩).run P w = .ok (.value v) w')
    (h : L P ops false N l (upd f d v) w') : L P ops false N (⟨some d, op, ty, ps, af, gd⟩ :: l) f w := by
  unfold L; rw [if_pos hw]; unfold stepF; rw [hx]; exact ⟨(fun h => by cases h), h⟩
theorem L_new0 {v : Value} {w' : World} (hw : Region.wanted ⟨none, op, ty, ps, af, gd⟩ (yieldedF ops f) = true) (hx : (execOp (ev f) ⟨none, op, ty, ps, af, gd⟩).run P w = .ok (.value v) w')
    (h : L P ops false N l f w') : L P ops false N (⟨none, op, ty, ps, af, gd⟩ :: l) f w := by
  unfold L; rw [if_pos hw]; unfold stepF; rw [hx]; exact ⟨(fun h => by cases h), h⟩
theorem L_do {w' : World} (hw : Region.wanted ⟨none, op, ty, ps, af, gd⟩ (yieldedF ops f) = true) (hx : (execOp (ev f) ⟨none, op, ty, ps, af, gd⟩).run P w = .ok .skip w')
    (h : L P ops false N l f w') : L P ops false N (⟨none, op, ty, ps, af, gd⟩ :: l) f w := by
  unfold L; rw [if_pos hw]; unfold stepF; rw [hx]; exact ⟨(fun h => by cases h), h⟩
theorem L_no {st : Bool} (hw : Region.wanted ⟨some d, op, ty, ps, af, gd⟩ (yieldedF ops f) = false) (h : L P ops st N l (upd f d undef) w) : L P ops st N (⟨some d, op, ty, ps, af, gd⟩ :: l) f w := by
  unfold L; rw [if_neg (by simp [hw])]; exact h
theorem L_enter {g : FuncId} {args : Array Value} {Rt : Ending → World → Prop} (hw : Region.wanted ⟨some d, op, ty, ps, af, gd⟩ (yieldedF ops f) = true) (hx : (execOp (ev f) ⟨some d, op, ty, ps, af, gd⟩).run P w = .ok (.enter g args) w)
    (hc : Calls P g args w Rt) (h : ∀ e w', Rt e w' → ∃ v, e = .returned v ∧ L P ops false N l (upd f d v) w') : L P ops false N (⟨some d, op, ty, ps, af, gd⟩ :: l) f w := by
  unfold L; rw [if_pos hw]; unfold stepF; rw [hx]; exact ⟨(fun h => by cases h), .inr ⟨rfl, hc.mono h⟩⟩
theorem L_enterQ {st : Bool} {g : FuncId} {args : Array Value} {v : Value} (hw : Region.wanted ⟨some d, op, ty, ps, af, gd⟩ (yieldedF ops f) = true) (hx : (execOp (ev f) ⟨some d, op, ty, ps, af, gd⟩).run P w = .ok (.enter g args) w)
    (hc : Calls P g args w (fun e w' => e = .returned v ∧ w' = w)) (h : L P ops st N l (upd f d v) w) : L P ops st N (⟨some d, op, ty, ps, af, gd⟩ :: l) f w := by
  unfold L; rw [if_pos hw]; unfold stepF; rw [hx]; exact ⟨fun _ => rfl, .inl ⟨v, hc, h⟩⟩
/-- A contract: the call returns a value of which R holds. -/
def Rv (R : Value → World → Prop) : Ending → World → Prop := fun e w => ∃ v, e = .returned v ∧ R v w
theorem L_call {g : FuncId} {args : Array Value} {R : Value → World → Prop} (hw : Region.wanted ⟨some d, op, ty, ps, af, gd⟩ (yieldedF ops f) = true) (hx : (execOp (ev f) ⟨some d, op, ty, ps, af, gd⟩).run P w = .ok (.enter g args) w)
    (hc : Calls P g args w (Rv R)) (h : ∀ v w', R v w' → L P ops false N l (upd f d v) w') : L P ops false N (⟨some d, op, ty, ps, af, gd⟩ :: l) f w :=
  L_enter hw hx hc (fun _ w' ⟨v, he, hR⟩ => ⟨v, he, h v w' hR⟩)
end

end

/-! ### What a call hands back -/
section
variable {P : Program} {n : Nat} {f : Fr} {w : World} {args : List Value} {g : FuncId} {fn : Func} {c : Code} {R : Value → World → Prop}

def Res (P : Program) (fn : Func) (R : Value → World → Prop) (f : Fr) (w : World) : Prop :=
  ∃ v, (∀ t : Array Value, (∀ i, t.getD i undef = f i) → (results fn t).run P w = .ok v w) ∧ R v w
theorem calls_W (hf : P.funcs[g]? = some fn) (hb : fn.body = some c) (hn : fn.ntmps = n) (hlen : Nat.ble args.length n = true)
    (h : W P n c (Res P fn R) (Res P fn R) (fun _ _ _ => False) (fun t => args.getD t undef) w) : Calls P g args.toArray w (Rv R) :=
  calls_of_W hf hb hn (Nat.le_of_ble_eq_true hlen) (W_mono h (fun _ _ ⟨v, h1, h2⟩ => ⟨v, h1, v, rfl, h2⟩) (fun _ _ ⟨v, h1, h2⟩ => ⟨v, h1, v, rfl, h2⟩) (fun _ _ _ h => h))
theorem res0 (hr : fn.results = #[]) (h : R (.tuple #[]) w) : Res P fn R f w := ⟨_, fun _ _ => results_none hr _ _ _, h⟩
theorem res1 {t : Tmp} {v : Value} (hr : fn.results = #[.tmp t]) (hv : f t = v) (h : R v w) : Res P fn R f w :=
  ⟨v, fun tm ht => by rw [results_tmp hr, ht, hv], h⟩
theorem res2 {t u : Tmp} {v1 v2 : Value} (hr : fn.results = #[.tmp t, .tmp u]) (h1 : f t = v1) (h2 : f u = v2) (h : R (.tuple #[v1, v2]) w) : Res P fn R f w :=
  ⟨_, fun tm ht => by rw [results_tmp2 hr, ht, ht, h1, h2], h⟩
theorem res3 {t u s : Tmp} {v1 v2 v3 : Value} (hr : fn.results = #[.tmp t, .tmp u, .tmp s]) (h1 : f t = v1) (h2 : f u = v2) (h3 : f s = v3) (h : R (.tuple #[v1, v2, v3]) w) : Res P fn R f w :=
  ⟨_, fun tm ht => by
    have a := ht t; have b := ht u; have c := ht s
    rw [h1] at a; rw [h2] at b; rw [h3] at c
    simp only [Array.getD_eq_getD_getElem?] at a b c
    simp [results, hr, a, b, c], h⟩
end
end E
end Go.Proofs.Ytinoebjhcmeppaa
