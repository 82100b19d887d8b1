/- The engine once more over the kit's fenced layer: for the body of a range over a function, for a function that holds one, and for the function that is ranged over. General: no program is named. -/
import Derived.Test.YtinoebjhcmeppaaHeld
import Derived.RangeFuncWrites
import Derived.RangeFuncLeaves
import Derived.OrdersIn
import Derived.TacticsIn
namespace Go.Proofs.Ytinoebjhcmeppaa
namespace E

/-- No fence at all, in a round of loop 'ro', or in none. -/
def FW (ro : Option Nat) : Fence := { fn := fun _ => True, depth := none, alive := false, round := ro }
theorem room_FW (ro : Option Nat) (k : Nat) : (FW ro).room k := fun d hd => by cases hd
theorem wpIn_m {ro : Option Nat} {m m' : Nat} {P : Program} {c : Code} {Q : Exit → Act → World → Prop} {a : Act} {w : World} (h : c.wpIn (FW ro) m P Q a w) : c.wpIn (FW ro) m' P Q a w :=
  fun b k cs h1 h2 _ => h b k cs h1 h2 (room_FW _ _)
theorem callsIn_FW {ro : Option Nat} {m : Nat} {P : Program} {f : FuncId} {args : Array Value} {w : World} {R : Ending → World → Prop} (h : Calls P f args w R) : CallsIn (FW ro) m P f args w R :=
  (callsIn_wide (n := m)).2 h
theorem calls_FW {m : Nat} {P : Program} {f : FuncId} {args : Array Value} {w : World} {R : Ending → World → Prop} (h : CallsIn (FW none) m P f args w R) : Calls P f args w R :=
  (callsIn_wide (n := m)).1 h

theorem rowsIn_FW {ro : Option Nat} {m : Nat} {P : Program} {row : String} {args : Array Value} {w : World} {R : Value → World → Prop} (h : Rows P row args w R) : RowsIn (FW ro) m P row args w R :=
  fun c cs _ => let ⟨v, w', r, s⟩ := h c cs; ⟨v, w', r, stepsIn_wide.2 s⟩

structure IsD (ds : List Deferred) (n : Nat) (a : Act) : Prop where
  size : a.tmps.size = n
  defers : a.defers = ds
theorem frD_put {ds : List Deferred} {n : Nat} {a : Act} (h : IsD ds n a) {o : Oper} (hd : dstOk n o = true) (v : Value) : IsD ds n (a.put o.dst v) ∧ fr (a.put o.dst v) = updo (fr a) o.dst v := by
  have h0 : Is n { a with defers := [] } := ⟨h.size, rfl⟩
  have h1 := fr_put h0 hd v
  cases hdst : o.dst with
  | none => exact ⟨by simpa [Act.put] using h, by simp [Act.put, updo]⟩
  | some d =>
    rw [hdst] at h1
    refine ⟨⟨by simpa [Act.put] using h1.1.size, by simpa [Act.put] using h.defers⟩, ?_⟩
    exact h1.2

def postF (ds : List Deferred) (n : Nat) (N R : Fr → World → Prop) (X : Nat → Fr → World → Prop) : Exit → Act → World → Prop
  | .normal, a, w => IsD ds n a ∧ N (fr a) w
  | .ret, a, w => IsD ds n a ∧ R (fr a) w
  | .exit i, a, w => IsD ds n a ∧ X i (fr a) w
  | _, _, _ => False

def Wf (ro : Option Nat) (ds : List Deferred) (P : Program) (n : Nat) (c : Code) (N R : Fr → World → Prop) (X : Nat → Fr → World → Prop) (f : Fr) (w : World) : Prop :=
  ∀ a, IsD ds n a → fr a = f → c.wpIn (FW ro) 7 P (postF ds n N R X) a w

section
variable {ro : Option Nat} {ds : List Deferred} {P : Program} {n : Nat} {N R : Fr → World → Prop} {X : Nat → Fr → World → Prop} {f : Fr} {w : World}
theorem Wf_mono {c : Code} {N' R' : Fr → World → Prop} {X' : Nat → Fr → World → Prop} (h : Wf ro ds P n c N R X f w) (hN : ∀ f w, N f w → N' f w) (hR : ∀ f w, R f w → R' f w)
    (hX : ∀ i f w, X i f w → X' i f w) : Wf ro ds P n c N' R' X' f w := fun a ha hf =>
  wpIn_mono (h a ha hf) fun e a' w' q => by
    cases e with
    | normal => exact ⟨q.1, hN _ _ q.2⟩
    | ret => exact ⟨q.1, hR _ _ q.2⟩
    | exit i => exact ⟨q.1, hX _ _ _ q.2⟩
    | goto l => exact q
    | panic c => exact q
    | outgrown => exact q
theorem Wf_skip (h : N f w) : Wf ro ds P n .skip N R X f w := fun _ ha hf => wpIn_skip ⟨ha, hf ▸ h⟩
theorem Wf_ret (h : R f w) : Wf ro ds P n .ret N R X f w := fun _ ha hf => wpIn_ret ⟨ha, hf ▸ h⟩
theorem Wf_exit {i : Nat} (h : X i f w) : Wf ro ds P n (.exit i) N R X f w := fun _ ha hf => wpIn_exit ⟨ha, hf ▸ h⟩
theorem Wf_seq {x y : Code} (h : Wf ro ds P n x (Wf ro ds P n y N R X) R X f w) : Wf ro ds P n (.seq x y) N R X f w := fun a ha hf =>
  wpIn_seq (wpIn_mono (h a ha hf) fun e a' w' q => by
    cases e with
    | normal => exact q.2 a' q.1 rfl
    | ret => exact q
    | exit i => exact q
    | goto l => exact q
    | panic c => exact q
    | outgrown => exact q)
theorem Wf_cond {c : Operand} {x y : Code} {b : Bool} (hc : ev f c = .bool b) (h : Wf ro ds P n (if b then x else y) N R X f w) : Wf ro ds P n (.cond c x y) N R X f w := fun a ha hf =>
  wpIn_cond (t := b) (by rw [ev_fr, hf]; exact hc) (h a ha hf)
theorem Wf_true {c : Operand} {x y : Code} (hc : ev f c = .bool true) (h : Wf ro ds P n x N R X f w) : Wf ro ds P n (.cond c x y) N R X f w := Wf_cond hc h
theorem Wf_false {c : Operand} {x y : Code} (hc : ev f c = .bool false) (h : Wf ro ds P n y N R X f w) : Wf ro ds P n (.cond c x y) N R X f w := Wf_cond hc h
theorem Wf_block {i : Nat} {c : Code} (h : Wf ro ds P n c N R (fun j => bif Nat.beq j i then N else X j) f w) : Wf ro ds P n (.block i c) N R X f w := fun a ha hf =>
  wpIn_block (wpIn_mono (h a ha hf) fun e a' w' q => by
    cases e with
    | normal => exact q
    | ret => exact q
    | exit j =>
      simp only [Exit.inBlock]
      obtain ⟨q1, q2⟩ := q
      by_cases e : j = i
      · subst e; rw [Nat.beq_refl] at q2; rw [if_pos rfl]; exact ⟨q1, q2⟩
      · have hb : Nat.beq j i = false := by
          cases hb : Nat.beq j i with
          | false => rfl
          | true => exact absurd (Nat.eq_of_beq_eq_true hb) e
        rw [hb] at q2; rw [if_neg e]; exact ⟨q1, q2⟩
    | goto l => exact q
    | panic c => exact q
    | outgrown => exact q)
theorem Wf_loop {c : Code} (I : Nat → Fr → World → Prop) (m : Nat) (h0 : I m f w)
    (round : ∀ m f w, I m f w → Wf ro ds P n c (fun f' w' => ∃ m', m' < m ∧ I m' f' w') R X f w) : Wf ro ds P n (.loop c) N R X f w := by
  intro a ha hf b k cs hro hb hr
  have key : ∀ m a w, IsD ds n a → I m (fr a) w →
      ∃ e a' w', postF ds n N R X e a' w' ∧ ArrivesIn (Machine.fenced P (FW ro)) P (lone (b.atR a (.code c :: .inLoop c :: k)) cs w) b k cs e a' w' := by
    intro m
    induction m using Nat.strongRecOn with
    | _ m ih =>
      intro a w ha hI
      obtain ⟨e, a₁, w₁, hq, harr⟩ := round m (fr a) w hI a ha rfl b (.inLoop c :: k) cs hro hb hr
      cases e with
      | normal =>
        obtain ⟨ha1, m', hlt, hI₁⟩ := hq
        obtain ⟨e₂, a₂, w₂, hq₂, harr₂⟩ := ih m' hlt a₁ w₁ ha1 hI₁
        exact ⟨e₂, a₂, w₂, hq₂, .of_steps (StepsIn.trans harr (.one (fenced_calm hb hr rfl) stepR_inLoop)) harr₂⟩
      | exit id => exact ⟨.exit id, a₁, w₁, hq, .pass (x := .inLoop c) rfl (fun _ _ => .inl (by simp)) harr⟩
      | goto l => exact hq.elim
      | ret => exact ⟨.ret, a₁, w₁, hq, .pass (x := .inLoop c) rfl (fun _ _ => .inl (by simp)) harr⟩
      | panic ch => exact hq.elim
      | outgrown => exact hq.elim
  obtain ⟨e, a', w', hq, harr⟩ := key m a w ha (hf ▸ h0)
  exact ⟨e, a', w', hq, .of_steps (.one (fenced_calm hb hr rfl) stepR_loop) harr⟩

/-! ### Operations -/
def noDefer (o : Oper) : Bool := match o.op with | .defer _ => false | _ => true
theorem semAt_FW {o : Oper} (h : noDefer o = true) (ρ : Operand → Value) : o.semAt ro ρ = execOp ρ o :=
  Oper.semAt_eq ro ρ o (fun c hc => by rw [noDefer, hc] at h; cases h)
theorem wpIn_of_wp {o : Oper} (hnd : noDefer o = true) {m : Nat} {a : Act} {K : Act → World → Prop} {Q : Exit → Act → World → Prop} (h : o.wp P a w K Q) : o.wpIn (FW ro) m P a w K Q := by
  refine ⟨fun _ _ => trivial, ?_⟩
  rw [show (FW ro).round = ro from rfl, semAt_FW hnd]
  unfold Oper.wp at h
  generalize (execOp a.eval o).run P w = r at h ⊢
  cases r with
  | ok x w' =>
    cases x <;> simp only [Oper.upon, Oper.uponIn] at h ⊢ <;>
      first
        | exact h
        | exact ⟨(fun hs => by cases hs), callsIn_FW h⟩
        | exact h.elim
        | exact ⟨(fun hs => by cases hs), rowsIn_FW h⟩
  | halt x w' => cases x <;> simp only [Oper.upon, Oper.uponIn] at h ⊢ <;> exact h
theorem wpOpIn_of {ops : Array Oper} (hnd : ops.toList.all noDefer = true) {Q : Exit → Act → World → Prop} (hQ : ¬ LetsOut Q) {m i : Nat} {a : Act} {K K' : Act → World → Prop} (hK : ∀ a w, K a w → K' a w) (h : wpOp P ops Q i K a w) : wpOpIn (FW ro) m P ops Q i K' a w := by
  unfold wpOp at h
  unfold wpOpIn
  cases ho : ops[i]? with
  | none => rw [ho] at h; exact hK _ _ h
  | some o =>
    rw [ho] at h
    simp only at h ⊢
    have hno : noDefer o = true := List.all_eq_true.1 hnd o (by rw [Array.mem_toList_iff]; exact Array.mem_of_getElem? ho)
    split
    · rename_i hw
      rw [if_pos hw] at h
      rcases h with h | ⟨_, h⟩
      · exact Oper.wpIn_mono hK (wpIn_of_wp hno h)
      · exact absurd h hQ
    · rename_i hw
      rw [if_neg hw] at h
      exact ⟨fun _ _ => trivial, hK _ _ h⟩
theorem wpAnyIn_of {ops : Array Oper} (hnd : ops.toList.all noDefer = true) {Q : Exit → Act → World → Prop} (hQ : ¬ LetsOut Q) {m : Nat} {md : Region.Mode} : ∀ (fuel : Nat) (listed : Array Bool) (a : Act) (w : World), wpAny P md ops Q fuel listed a w → wpAnyIn (FW ro) m P md ops Q fuel listed a w
  | 0, _, _, _, h => h
  | fuel + 1, _, _, _, h => ⟨h.1, fun i hi => wpOpIn_of hnd hQ (fun a w => wpAnyIn_of hnd hQ fuel _ a w) (h.2 i hi)⟩
theorem no_out : ¬ LetsOut (postF ds n N R X) := fun ⟨_, _, h⟩ => h

theorem wpListInF {ops : Array Oper} {N' : Exit → Act → World → Prop} {st : Bool} {m : Nat} {N0 : Fr → World → Prop} (hN : ∀ a w, IsD ds n a → N0 (fr a) w → N' .normal a w) (hout : ¬ LetsOut N') :
    ∀ (l : List Oper), l.all (dstOk n) = true → l.all noDefer = true → ∀ (a : Act) (w : World), IsD ds n a → L P ops st N0 l (fr a) w → wpListIn (FW ro) m P ops N' l a w
  | [], _, _, a, w, ha, h => hN a w ha h
  | o :: l, hd, hnd, a, w, ha, h => by
    simp only [List.all_cons, Bool.and_eq_true] at hd hnd
    have ih := wpListInF (ops := ops) (m := m) (st := st) hN hout l hd.2 hnd.2
    unfold wpListIn
    rw [yielded_fun]
    unfold L at h
    by_cases hw : Region.wanted o (yieldedF ops (fr a)) = true
    · rw [if_pos hw] at h ⊢
      refine wpIn_of_wp hnd.1 ?_
      unfold stepF at h
      unfold Oper.wp
      rw [ev_fr]
      generalize (execOp (ev (fr a)) o).run P w = r at h ⊢
      cases r with
      | halt x w' => exact h.elim
      | ok nx w' =>
        cases nx <;> simp only at h <;> try exact h.elim
        case value v =>
          obtain ⟨h1, h2⟩ := frD_put ha hd.1 v
          exact ih _ _ h1 (h2 ▸ h.2)
        case skip =>
          obtain ⟨h1, h2⟩ := frD_put ha hd.1 undef
          exact ih _ _ h1 (h2 ▸ h.2)
        case enter g args =>
          rcases h.2 with ⟨v, hc, hn⟩ | ⟨_, hc⟩
          · refine hc.mono fun e w'' ⟨he, hw''⟩ => ?_
            subst he; subst hw''
            obtain ⟨h1, h2⟩ := frD_put ha hd.1 v
            exact ih _ _ h1 (h2 ▸ hn)
          · refine hc.mono fun e w'' ⟨v, he, hn⟩ => ?_
            subst he
            obtain ⟨h1, h2⟩ := frD_put ha hd.1 v
            exact ih _ _ h1 (h2 ▸ hn)
    · rw [if_neg hw] at h ⊢
      obtain ⟨h1, h2⟩ := frD_put ha hd.1 undef
      exact ⟨fun _ _ => trivial, ih _ _ h1 (h2 ▸ h)⟩
theorem Wf_region {id : Nat} {l : List Oper} (hd : l.all (dstOk n) = true) (hnd : l.all noDefer = true) (h : L P l.toArray false N l f w) : Wf ro ds P n (.region id l.toArray false) N R X f w := fun a ha hf =>
  wpIn_region_lit (wpListInF (fun _ _ ha h => ⟨ha, h⟩) no_out l hd hnd a w ha (hf ▸ h))
/-- A region whose operations up to number k are plain, and the others as it is said. -/
theorem wpListInX {ops : Array Oper} {N' : Exit → Act → World → Prop} {m : Nat} {l2 : List Oper} (hout : ¬ LetsOut N') :
    ∀ (l : List Oper), l.all (dstOk n) = true → l.all noDefer = true → ∀ (a : Act) (w : World), IsD ds n a → L P ops false (fun f w => ∀ a, IsD ds n a → fr a = f → wpListIn (FW ro) m P ops N' l2 a w) l (fr a) w → wpListIn (FW ro) m P ops N' (l ++ l2) a w
  | [], _, _, a, w, ha, h => h a ha rfl
  | o :: l, hd, hnd, a, w, ha, h => by
    simp only [List.all_cons, Bool.and_eq_true] at hd hnd
    have ih := wpListInX (ops := ops) (m := m) (l2 := l2) hout l hd.2 hnd.2
    rw [List.cons_append]
    unfold wpListIn
    rw [yielded_fun]
    unfold L at h
    by_cases hw : Region.wanted o (yieldedF ops (fr a)) = true
    · rw [if_pos hw] at h ⊢
      refine wpIn_of_wp hnd.1 ?_
      unfold stepF at h
      unfold Oper.wp
      rw [ev_fr]
      generalize (execOp (ev (fr a)) o).run P w = r at h ⊢
      cases r with
      | halt x w' => exact h.elim
      | ok nx w' =>
        cases nx <;> simp only at h <;> try exact h.elim
        case value v =>
          obtain ⟨h1, h2⟩ := frD_put ha hd.1 v
          exact ih _ _ h1 (h2 ▸ h.2)
        case skip =>
          obtain ⟨h1, h2⟩ := frD_put ha hd.1 undef
          exact ih _ _ h1 (h2 ▸ h.2)
        case enter g args =>
          rcases h.2 with ⟨v, hc, hn⟩ | ⟨_, hc⟩
          · refine hc.mono fun e w'' ⟨he, hw''⟩ => ?_
            subst he; subst hw''
            obtain ⟨h1, h2⟩ := frD_put ha hd.1 v
            exact ih _ _ h1 (h2 ▸ hn)
          · refine hc.mono fun e w'' ⟨v, he, hn⟩ => ?_
            subst he
            obtain ⟨h1, h2⟩ := frD_put ha hd.1 v
            exact ih _ _ h1 (h2 ▸ hn)
    · rw [if_neg hw] at h ⊢
      obtain ⟨h1, h2⟩ := frD_put ha hd.1 undef
      exact ⟨fun _ _ => trivial, ih _ _ h1 (h2 ▸ h)⟩
end

/-! ### What stands behind -/
theorem L_mono {P : Program} {ops : Array Oper} {N N' : Fr → World → Prop} {st : Bool} (hN : ∀ f w, N f w → N' f w) : ∀ {l : List Oper} {f : Fr} {w : World}, L P ops st N l f w → L P ops st N' l f w
  | [], f, w, h => hN f w h
  | o :: l, f, w, h => by
    unfold L at h ⊢
    have ih := @L_mono P ops N N' st hN l
    split
    · rename_i hw
      rw [if_pos hw] at h
      unfold stepF at h ⊢
      generalize (execOp (ev f) o).run P w = r at h ⊢
      cases r with
      | halt x w' => exact h
      | ok nx w' =>
        cases nx <;> simp only at h ⊢ <;> try exact h
        case value v => exact ⟨h.1, ih h.2⟩
        case skip => exact ⟨h.1, ih h.2⟩
        case enter g args =>
          refine ⟨h.1, ?_⟩
          rcases h.2 with ⟨v, hc, hn⟩ | ⟨hst, hc⟩
          · exact .inl ⟨v, hc, ih hn⟩
          · exact .inr ⟨hst, hc.mono fun e w'' ⟨v, he, hn⟩ => ⟨v, he, ih hn⟩⟩
    · rename_i hw
      rw [if_neg hw] at h
      exact ih h

/-! ### Regions that draw their order -/
theorem wpAny_still_tail {P : Program} {Q : Exit → Act → World → Prop} {a : Act} {w : World} {l : List Oper} (n : Nat) (hB : Region.lexTailB .any l.toArray n = true)
    (h : wpStill P l.toArray w (fun a' => wpList P l.toArray Q (l.drop n) a' w) (l.take n) a) : wpAny P .any l.toArray Q l.toArray.size (Array.replicate l.toArray.size false) a w := by
  simp only [Region.lexTailB, Bool.and_eq_true, decide_eq_true_eq] at hB
  obtain ⟨⟨⟨⟨hsel, hn⟩, hs⟩, hc⟩, hlex⟩ := hB
  have hn' : n < l.length := by simpa using hn
  have htl : (l.take n).length = n := by simp; omega
  have hdl : (l.drop n).length = l.toArray.size - n := by simp
  have inv0 : HeadInv .any l.toArray n (Array.replicate l.toArray.size false) :=
    ⟨by simp, fun j oj _ hl => (by rw [getD_replicate_false] at hl; cases hl), fun t _ ht => getD_in (by simpa using ht) (getD_replicate_false _ _)⟩
  have H := wpAnyL_lex (md := .any) (g := l.toArray.size - n) hsel hs hc hn (l.take n) 0 _ a (fun j hj => by
    have hj' : j < n := by rw [htl] at hj; exact hj
    simp [hj']) (by simpa using htl) inv0 (by rw [htl]; exact hlex) h
  have := wpAny_of_head (Q' := Q) (g := l.toArray.size - n) (fun listed a' hL => by
    have := wpAny_of_seq (md := .any) (Q' := Q) (l.drop n) n listed a' w (fun j => by simp [List.getElem?_drop]) (by rw [hdl]; exact hL.1) hL.2
    rwa [hdl] at this) _ _ _ H
  rw [htl, show n + (l.toArray.size - n) = l.toArray.size by omega] at this
  exact this
section
variable {ro : Option Nat} {P : Program} {n : Nat} {N R : Fr → World → Prop} {X : Nat → Fr → World → Prop} {f : Fr} {w : World}
theorem Wf_tail {id : Nat} {l : List Oper} (k : Nat) (hm : P.follows .mixedOrders = true) (hB : Region.lexTailB .any l.toArray k = true) (hd : l.all (dstOk n) = true) (hnd : l.all noDefer = true)
    (h : L P l.toArray true (fun f w => L P l.toArray false N (l.drop k) f w) (l.take k) f w.drew) : Wf ro [] P n (.region id l.toArray true) N R X f w := fun a ha hf => by
  have hd1 : (l.take k).all (dstOk n) = true := by
    rw [List.all_eq_true] at hd ⊢; exact fun x hx => hd x (List.mem_of_mem_take hx)
  have hd2 : (l.drop k).all (dstOk n) = true := by
    rw [List.all_eq_true] at hd ⊢; exact fun x hx => hd x (List.mem_of_mem_drop hx)
  have ha' : Is n a := ⟨ha.size, ha.defers⟩
  refine wpIn_region_any hm (wpAnyIn_of (by simpa using hnd) no_out _ _ _ _ (wpAny_still_tail k hB ?_))
  exact wpStill_of_L (ops := l.toArray) (w0 := w.drew) (fun a ha h => wpList_of_L (n := n) (N' := postF [] n N R X) (fun a w ha h => ⟨⟨ha.size, ha.defers⟩, h⟩) _ hd2 a w.drew ha h) (l.take k) hd1 a ha' (hf ▸ h)
theorem Wf_still {id : Nat} {l : List Oper} (hm : P.follows .mixedOrders = true) (hB : Region.lexB .any l.toArray = true) (hd : l.all (dstOk n) = true) (hnd : l.all noDefer = true)
    (h : L P l.toArray true N l f w.drew) : Wf ro [] P n (.region id l.toArray true) N R X f w := fun a ha hf => by
  have ha' : Is n a := ⟨ha.size, ha.defers⟩
  have hst := wpStill_of_L (ops := l.toArray) (w0 := w.drew) (Q := fun a' => postF [] n N R X .normal a' w.drew) (fun a ha h => ⟨⟨ha.size, ha.defers⟩, h⟩) l hd a ha' (hf ▸ h)
  simp only [Region.lexB, Bool.and_eq_true] at hB
  refine wpIn_region_any hm (wpAnyIn_of (by simpa using hnd) no_out _ _ _ _ (wpAny_of_still (Q := fun a' => postF [] n N R X .normal a' w.drew) (fun _ h => h) _ _ _ ?_))
  have := wpAnyS_lex (md := .any) hB.1 l 0 (Array.replicate l.toArray.size false) a (by simp) (by simpa using hB.2) hst
  simpa using this
end

/-! ### A call of yield -/
theorem run_execYield {P : Program} {f : Fr} {w : World} {dst : Option Tmp} {ps : String} {af : Array Edge} {gd : Option (Nat × Bool)} {ty : TypeId} {x y : Operand} {ats : Array TypeId} {l : Nat} (hx : ev f x = .func (.yield l) #[] #[]) :
    (execOp (ev f) ⟨dst, .call ⟨.value x, #[y], ats⟩, ty, ps, af, gd⟩).run P w = (Instr.yield l #[ev f y]).run P w := by
  simp [execOp, resolve, hx, Deferred.ofValue, invoke]
section
variable {ds : List Deferred} {P : Program} {n : Nat} {N R : Fr → World → Prop} {X : Nat → Fr → World → Prop} {f : Fr} {w : World}
/-- A region with one call of yield in it: it is operation number k. -/
theorem Wf_yield {id : Nat} {l l2 : List Oper} (k : Nat) {d : Tmp} {x y : Operand} {ats : Array TypeId} {ty : TypeId} {ps : String} {af : Array Edge} (hk : l.drop k = ⟨some d, .call ⟨.value x, #[y], ats⟩, ty, ps, af, none⟩ :: l2)
    (hd : l.all (dstOk n) = true) (hnd : l.all noDefer = true)
    (h : L P l.toArray false (fun f w => ∃ g v Rt, ev f x = .func (.yield g) #[] #[] ∧ ev f y = v ∧ YieldAt (FW none) 6 P g #[v] w Rt ∧
        ∀ e w', Rt e w' → ∃ v, e = .returned v ∧ L P l.toArray false N l2 (upd f d v) w') (l.take k) f w) :
    Wf none ds P n (.region id l.toArray false) N R X f w := fun a ha hf => by
  have hd1 : (l.take k).all (dstOk n) = true := by
    rw [List.all_eq_true] at hd ⊢; exact fun x hx => hd x (List.mem_of_mem_take hx)
  have hn1 : (l.take k).all noDefer = true := by
    rw [List.all_eq_true] at hnd ⊢; exact fun x hx => hnd x (List.mem_of_mem_take hx)
  have hd2 : (l.drop k).all (dstOk n) = true := by
    rw [List.all_eq_true] at hd ⊢; exact fun x hx => hd x (List.mem_of_mem_drop hx)
  have hn2 : (l.drop k).all noDefer = true := by
    rw [List.all_eq_true] at hnd ⊢; exact fun x hx => hnd x (List.mem_of_mem_drop hx)
  rw [hk, List.all_cons, Bool.and_eq_true] at hd2 hn2
  subst hf
  have key : ∀ (f : Fr) (w : World), (∃ g v Rt, ev f x = .func (.yield g) #[] #[] ∧ ev f y = v ∧ YieldAt (FW none) 6 P g #[v] w Rt ∧
        ∀ e w', Rt e w' → ∃ v, e = .returned v ∧ L P l.toArray false N l2 (upd f d v) w') → ∀ a, IsD ds n a → fr a = f → wpListIn (FW none) 7 P l.toArray (postF ds n N R X) (l.drop k) a w := by
    rintro f w ⟨g, v, Rt, hx, hy, ⟨fn, tmps, as', body, hyr, hr⟩, hnext⟩ a ha rfl
    rw [hk]
    unfold wpListIn
    rw [if_pos (show Region.wanted _ _ = true from rfl)]
    refine ⟨fun _ _ => trivial, ?_⟩
    rw [show (FW none).round = none from rfl, Oper.semAt_none, ev_fr, run_execYield hx, hy, hyr]
    refine ⟨(fun hs => by cases hs), hr.mono fun e w'' he => ?_⟩
    obtain ⟨v, rfl, hL⟩ := hnext e w'' he
    obtain ⟨h1, h2⟩ := frD_put ha (o := ⟨some d, .call ⟨.value x, #[y], ats⟩, ty, ps, af, none⟩) hd2.1 v
    exact wpListInF (ds := ds) (n := n) (fun _ _ ha h => ⟨ha, h⟩) no_out l2 hd2.2 hn2.2 _ _ h1 (by rw [h2]; exact hL)
  have hg := wpListInX (ro := none) (ds := ds) (n := n) (m := 7) (ops := l.toArray) (l2 := l.drop k) (N' := postF ds n N R X) no_out (l.take k) hd1 hn1 a w ha (L_mono key h)
  rw [List.take_append_drop] at hg
  exact wpIn_region_lit hg

/-! ### Contracts -/
theorem yieldAt_m {m m' : Nat} {l : Nat} {args : Array Value} {Rt : Ending → World → Prop} (h : YieldAt (FW none) m P l args w Rt) : YieldAt (FW none) m' P l args w Rt := by
  obtain ⟨fn, tmps, as', body, h1, h2, h3⟩ := h
  exact ⟨fn, tmps, as', body, h1, h2, fun c cs _ => h3 c cs (room_FW _ _)⟩
theorem callsIn_m {m m' : Nat} {g : FuncId} {args : Array Value} {Rt : Ending → World → Prop} (h : CallsIn (FW none) m P g args w Rt) : CallsIn (FW none) m' P g args w Rt :=
  ⟨h.1, fun cs _ => h.2 cs (room_FW _ _)⟩
/-- What a function hands back whose body held a range over a function: the mark's block is shut. -/
def ResD (P : Program) (fn : Func) (D : Nat) (Q : Value → World → Prop) (f : Fr) (w : World) : Prop :=
  w.heap[D]? = some (.deferred (some [])) ∧ Res P fn Q f (w.putObj D (.deferred none))
def markOf (D : Nat) : Deferred := { target := .collected D, args := #[] }
theorem leaves_mark {fn : Func} {D : Nat} {Q : Value → World → Prop} {a : Act} {w : World} (ha : IsD [markOf D] n a) (h : ResD P fn D Q (fr a) w) : LeavesInM (FW none) 7 P fn a.tmps (Rv Q) a.defers .returning w := by
  rw [ha.defers]
  obtain ⟨hD, v, hv, hq⟩ := h
  exact ⟨by simp, .inl ⟨D, _, rfl, run_takeDeferred hD, v, hv _ (fun _ => rfl), v, rfl, hq⟩⟩
theorem leaves_plain {fn : Func} {Q : Value → World → Prop} {a : Act} {w : World} (ha : IsD [] n a) (h : Res P fn Q (fr a) w) : LeavesInM (FW none) 7 P fn a.tmps (Rv Q) a.defers .returning w := by
  rw [ha.defers]
  obtain ⟨v, hv, hq⟩ := h
  exact ⟨v, hv _ (fun _ => rfl), v, rfl, hq⟩
end
section
variable {P : Program} {n : Nat} {w : World}
theorem args_fr {args : List Value} {fn : Func} (hn : fn.ntmps = n) (hlen : Nat.ble args.length n = true) :
    IsD [] n { tmps := args.toArray ++ Array.replicate (fn.ntmps - args.toArray.size) undef, defers := [] } ∧ fr { tmps := args.toArray ++ Array.replicate (fn.ntmps - args.toArray.size) undef, defers := [] } = fun t => args.getD t undef := by
  have hlen := Nat.le_of_ble_eq_true hlen
  refine ⟨⟨by simp [hn]; omega, rfl⟩, ?_⟩
  funext t
  simp only [fr]
  by_cases ht : t < args.length
  · simp [Array.getElem?_append, ht]
  · have : args[t]? = none := List.getElem?_eq_none (by omega)
    simp only [Array.getD_eq_getD_getElem?, Array.getElem?_append, List.size_toArray, ht, if_false, List.getD_eq_getElem?_getD, this, Option.getD_none]
    by_cases h2 : t - args.length < fn.ntmps - args.length
    · simp [h2]
    · simp [h2]
/-- A function whose body may hold a range over a function: the walk says itself how the body is left. -/
theorem calls_marks {g : FuncId} {fn : Func} {c : Code} {args : List Value} {Q : Value → World → Prop} (hf : P.funcs[g]? = some fn) (hb : fn.body = some c) (hn : fn.ntmps = n) (hlen : Nat.ble args.length n = true)
    (h : ∀ a, IsD [] n a → fr a = (fun t => args.getD t undef) → c.wpIn (FW none) 7 P (bodyPostM (FW none) 7 P fn (Rv Q)) a w) : Calls P g args.toArray w (Rv Q) :=
  calls_FW (m := 7) (callsIn_of_wp_marks hf hb trivial (by
    obtain ⟨h1, h2⟩ := args_fr (fn := fn) hn hlen
    exact h _ h1 h2))
/-- A contract in the fenced layer, no mark. -/
theorem callsIn_Wf {g : FuncId} {fn : Func} {c : Code} {args : List Value} {Q : Value → World → Prop} (hf : P.funcs[g]? = some fn) (hb : fn.body = some c) (hn : fn.ntmps = n) (hlen : Nat.ble args.length n = true)
    (h : Wf none [] P n c (Res P fn Q) (Res P fn Q) (fun _ _ _ => False) (fun t => args.getD t undef) w) : CallsIn (FW none) 7 P g args.toArray w (Rv Q) :=
  callsIn_of_wp_marks hf hb trivial (by
    obtain ⟨h1, h2⟩ := args_fr (fn := fn) hn hlen
    refine wpIn_mono (h _ h1 h2) (fun e a w q => ?_)
    cases e with
    | normal => exact leaves_plain q.1 q.2
    | ret => exact leaves_plain q.1 q.2
    | exit i => exact q.2.elim
    | goto l => exact q.elim
    | panic ch => exact q.elim
    | outgrown => exact q.elim)
end
end E
end Go.Proofs.Ytinoebjhcmeppaa
