/- The engine's rules for regions that draw their order and also write: over the kit's OrdersHeld. General: no program is named. -/
import Derived.Test.YtinoebjhcmeppaaMem
namespace Go.Proofs.Ytinoebjhcmeppaa
namespace E

/-- Whatever order is picked from here on; S holds behind every operation. -/
def H (P : Program) (n : Nat) (ops : Array Oper) (S : World → Prop) (N R : Fr → World → Prop) (X : Nat → Fr → World → Prop) (fuel : Nat) (listed : Array Bool) (f : Fr) (w : World) : Prop :=
  ∀ a, Is n a → fr a = f → wpAnyH P .any ops (post n N R X) S fuel listed a w

section
variable {P : Program} {n : Nat} {ops : Array Oper} {S : World → Prop} {N R : Fr → World → Prop} {X : Nat → Fr → World → Prop} {f : Fr} {w : World} {fuel : Nat} {listed : Array Bool}

theorem W_held {id : Nat} (S : World → Prop) (hm : P.follows .mixedOrders = true) (h : H P n ops S N R X ops.size (Array.replicate ops.size false) f w.drew) : W P n (.region id ops true) N R X f w := fun a ha hf =>
  wp_region_held (S := S) hm (h a ha hf)
theorem W_heldN {id : Nat} (S : World → Prop) (k : Nat) (hm : P.follows .mixedOrders = true) (hk : ops.size = k) (h : H P n ops S N R X k (Array.replicate k false) f w.drew) : W P n (.region id ops true) N R X f w := by
  subst hk; exact W_held S hm h
theorem H_done (hr : Region.ready .any ops listed = []) (h : N f w) : H P n ops S N R X fuel listed f w := fun a ha hf =>
  wpAnyH_done hr ⟨ha, hf ▸ h⟩ fuel
/-- A value that every world of S yields. -/
theorem H_take (i : Nat) {d : Tmp} {op : Op} {ty : TypeId} {ps : String} {af : Array Edge} {gd : Option (Nat × Bool)} {v : Value} (hi : ops[i]? = some ⟨some d, op, ty, ps, af, gd⟩) (hs : Region.noSelect ops = true)
    (hf : Region.free .any ops listed i = true) (hr : (Region.ready .any ops listed).contains i = true) (hd : Nat.blt d n = true) (hw : Region.wanted ⟨some d, op, ty, ps, af, gd⟩ (yieldedF ops f) = true) (hS : S w)
    (hx : ∀ w, S w → (execOp (ev f) ⟨some d, op, ty, ps, af, gd⟩).run P w = .ok (.value v) w) (h : H P n ops S N R X fuel (listed.setIfInBounds i true) (upd f d v) w) : H P n ops S N R X (fuel + 1) listed f w := fun a ha hfa => by
  have hput := fr_put ha (o := ⟨some d, op, ty, ps, af, gd⟩) hd v
  refine wpAnyH_take hi hs hf hr (fun c a w q => q) (.inl ⟨?_, fun w' hw' => ?_⟩) hS (h _ hput.1 (by rw [hput.2, hfa]; rfl))
  · rw [yielded_fun, hfa]; exact hw
  · rw [ev_fr, hfa]; exact hx w' hw'
theorem fr_world {o : Oper} (hd : dstOk n o = true) {a : Act} (ha : Is n a) {K : Act → World → Prop} {w' : World} {v : Value} (h : ∀ f', f' = updo (fr a) o.dst v → ∀ a', Is n a' → fr a' = f' → K a' w') : K (a.put o.dst v) w' := by
  have hput := fr_put ha hd v
  exact h _ rfl _ hput.1 hput.2
/-- One operation that may come up, whichever. -/
def stepH (P : Program) (n : Nat) (ops : Array Oper) (S : World → Prop) (N R : Fr → World → Prop) (X : Nat → Fr → World → Prop) (fuel : Nat) (listed : Array Bool) (f : Fr) (w : World) (i : Nat) : Prop :=
  ∃ o, ops[i]? = some o ∧ dstOk n o = true ∧ Region.wanted o (yieldedF ops f) = true ∧
    stepF P false o f w (fun f' w' => S w' ∧ H P n ops S N R X fuel (listed.setIfInBounds i true) f' w')
theorem H_all {rs : List Nat} (hr : Region.ready .any ops listed = rs) (hne : rs ≠ []) (h : ∀ i ∈ rs, stepH P n ops S N R X fuel listed f w i) : H P n ops S N R X (fuel + 1) listed f w := fun a ha hfa => by
  refine wpAnyH_all hr hne fun i hi => ?_
  obtain ⟨o, ho, hd, hw, hst⟩ := h i hi
  subst hfa
  unfold wpOp
  simp only [ho]
  rw [yielded_fun, if_pos hw]
  unfold Oper.wp
  rw [ev_fr]
  unfold stepF at hst
  generalize (execOp (ev (fr a)) o).run P w = r at hst ⊢
  have key : ∀ (v : Value) (w' : World), (S w' ∧ H P n ops S N R X fuel (listed.setIfInBounds i true) (updo (fr a) o.dst v) w') → S w' ∧ wpAnyH P .any ops (post n N R X) S fuel (listed.setIfInBounds i true) (a.put o.dst v) w' := fun v w' q => by
    have hput := fr_put ha hd v
    exact ⟨q.1, q.2 _ hput.1 hput.2⟩
  cases r with
  | halt x w' => exact hst.elim
  | ok nx w' =>
    cases nx <;> simp only at hst <;> try exact hst.elim
    case value v => exact .inl (key v w' hst.2)
    case skip => exact .inl (key undef w' hst.2)
    case enter g args =>
      rcases hst.2 with ⟨v, hc, hn⟩ | ⟨_, hc⟩
      · refine .inl (hc.mono fun e w'' ⟨he, hw''⟩ => ?_)
        subst he; subst hw''
        exact key v w'' hn
      · refine .inl (hc.mono fun e w'' ⟨v, he, hn⟩ => ?_)
        subst he
        exact key v w'' hn
/-- Only one may come up. -/
theorem H_one (i : Nat) (hr : Region.ready .any ops listed = [i]) (h : stepH P n ops S N R X fuel listed f w i) : H P n ops S N R X (fuel + 1) listed f w :=
  H_all hr (by simp) (fun j hj => by rw [List.mem_singleton.1 hj]; exact h)
theorem H_two (i j : Nat) (hr : Region.ready .any ops listed = [i, j]) (h1 : stepH P n ops S N R X fuel listed f w i) (h2 : stepH P n ops S N R X fuel listed f w j) : H P n ops S N R X (fuel + 1) listed f w :=
  H_all hr (by simp) (fun k hk => by
    rcases List.mem_cons.1 hk with rfl | hk
    · exact h1
    · rw [List.mem_singleton.1 hk]; exact h2)
theorem H_three (i j l : Nat) (hr : Region.ready .any ops listed = [i, j, l]) (h1 : stepH P n ops S N R X fuel listed f w i) (h2 : stepH P n ops S N R X fuel listed f w j) (h3 : stepH P n ops S N R X fuel listed f w l) : H P n ops S N R X (fuel + 1) listed f w :=
  H_all hr (by simp) (fun k hk => by
    rcases List.mem_cons.1 hk with rfl | hk
    · exact h1
    · rcases List.mem_cons.1 hk with rfl | hk
      · exact h2
      · rw [List.mem_singleton.1 hk]; exact h3)
section
variable {i : Nat} {d : Tmp} {op : Op} {ty : TypeId} {ps : String} {af : Array Edge} {gd : Option (Nat × Bool)}
theorem S_val {v : Value} (hi : ops[i]? = some ⟨some d, op, ty, ps, af, gd⟩) (hd : Nat.blt d n = true) (hw : Region.wanted ⟨some d, op, ty, ps, af, gd⟩ (yieldedF ops f) = true)
    (hx : (execOp (ev f) ⟨some d, op, ty, ps, af, gd⟩).run P w = .ok (.value v) w) (hS : S w) (h : H P n ops S N R X fuel (listed.setIfInBounds i true) (upd f d v) w) : stepH P n ops S N R X fuel listed f w i :=
  ⟨_, hi, hd, hw, by unfold stepF; rw [hx]; exact ⟨(fun h => by cases h), hS, h⟩⟩
theorem S_enterQ {g : FuncId} {args : Array Value} {v : Value} (hi : ops[i]? = some ⟨some d, op, ty, ps, af, gd⟩) (hd : Nat.blt d n = true) (hw : Region.wanted ⟨some d, op, ty, ps, af, gd⟩ (yieldedF ops f) = true)
    (hx : (execOp (ev f) ⟨some d, op, ty, ps, af, gd⟩).run P w = .ok (.enter g args) w) (hc : Calls P g args w (fun e w' => e = .returned v ∧ w' = w)) (hS : S w) (h : H P n ops S N R X fuel (listed.setIfInBounds i true) (upd f d v) w) : stepH P n ops S N R X fuel listed f w i :=
  ⟨_, hi, hd, hw, by unfold stepF; rw [hx]; exact ⟨(fun h => by cases h), .inl ⟨v, hc, hS, h⟩⟩⟩
theorem S_call {g : FuncId} {args : Array Value} {Q : Value → World → Prop} (hi : ops[i]? = some ⟨some d, op, ty, ps, af, gd⟩) (hd : Nat.blt d n = true) (hw : Region.wanted ⟨some d, op, ty, ps, af, gd⟩ (yieldedF ops f) = true)
    (hx : (execOp (ev f) ⟨some d, op, ty, ps, af, gd⟩).run P w = .ok (.enter g args) w) (hc : Calls P g args w (Rv Q)) (h : ∀ v w', Q v w' → S w' ∧ H P n ops S N R X fuel (listed.setIfInBounds i true) (upd f d v) w') : stepH P n ops S N R X fuel listed f w i :=
  ⟨_, hi, hd, hw, by unfold stepF; rw [hx]; exact ⟨(fun h => by cases h), .inr ⟨rfl, hc.mono fun e w' ⟨v, he, hq⟩ => ⟨v, he, h v w' hq⟩⟩⟩⟩
theorem S_store {t : TypeId} {x y : Operand} {b o : Nat} {c : Array Value} {T : TypeId} {v : Value} (hi : ops[i]? = some ⟨none, .store t x y, ty, ps, af, gd⟩) (hs : cellsT P t = some 1)
    (hw : Region.wanted ⟨none, .store t x y, ty, ps, af, gd⟩ (yieldedF ops f) = true) (hx : ev f x = .pointer (some ⟨b, o, none⟩)) (hy : ev f y = v) (h1 : v.oneCell' = true)
    (hb : w.heap[b]? = some (.cells c T (0, 0))) (ho : o < c.size)
    (h : ∀ w', w'.heap[b]? = some (.cells (c.setIfInBounds o v) T (0, 0)) → Chg [b] w w' → S w' ∧ H P n ops S N R X fuel (listed.setIfInBounds i true) f w') : stepH P n ops S N R X fuel listed f w i :=
  ⟨_, hi, rfl, hw, by unfold stepF; rw [x_store hs hx hy h1 hb ho]; exact ⟨(fun h => by cases h), h _ (setRow_at hb) (Chg.setRow w b _)⟩⟩
end
end
end E
end Go.Proofs.Ytinoebjhcmeppaa
