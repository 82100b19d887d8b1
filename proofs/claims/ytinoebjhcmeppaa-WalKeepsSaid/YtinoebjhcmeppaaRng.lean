/- The rule for a range over a function with one loop variable, whose body goes on to its end. General: no program is named. -/
import Derived.Test.YtinoebjhcmeppaaFen
namespace Go.Proofs.Ytinoebjhcmeppaa
namespace E

def WQ (ro : Option Nat) (ds : List Deferred) (P : Program) (n : Nat) (c : Code) (Q : Exit → Act → World → Prop) (f : Fr) (w : World) : Prop :=
  ∀ a, IsD ds n a → fr a = f → c.wpIn (FW ro) 7 P Q a w
section
variable {ro : Option Nat} {ds : List Deferred} {P : Program} {n : Nat} {Q : Exit → Act → World → Prop} {f : Fr} {w : World}
theorem WQ_seq {x y : Code} (h : Wf ro ds P n x (WQ ro ds P n y Q) (fun f w => ∀ a, IsD ds n a → fr a = f → Q .ret a w) (fun _ _ _ => False) f w) : WQ ro ds P n (.seq x y) Q f w := fun a ha hf =>
  wpIn_seq (wpIn_mono (h a ha hf) fun e a' w' q => by
    cases e with
    | normal => exact q.2 a' q.1 rfl
    | ret => exact q.2 a' q.1 rfl
    | exit i => exact q.2.elim
    | goto l => exact q.elim
    | panic c => exact q.elim
    | outgrown => exact q.elim)
theorem WQ_outer {x z : Code} (h : WQ ro ds P n x (Exit.then (fun a w => z.wpIn (FW ro) 7 P Q a w) Q) f w) : WQ ro ds P n (.seq x z) Q f w := fun a ha hf => wpIn_seq (h a ha hf)
theorem WQ_of {c : Code} (h : Wf ro ds P n c (fun f w => ∀ a, IsD ds n a → fr a = f → Q .normal a w) (fun f w => ∀ a, IsD ds n a → fr a = f → Q .ret a w) (fun _ _ _ => False) f w) : WQ ro ds P n c Q f w := fun a ha hf =>
  wpIn_mono (h a ha hf) fun e a' w' q => by
    cases e with
    | normal => exact q.2 a' q.1 rfl
    | ret => exact q.2 a' q.1 rfl
    | exit i => exact q.2.elim
    | goto l => exact q.elim
    | panic c => exact q.elim
    | outgrown => exact q.elim

theorem fr_set {a : Act} {n d : Nat} {v : Value} (hs : a.tmps.size = n) (hd : d < n) : fr { tmps := a.tmps.setIfInBounds d v, defers := [] } = upd (fr a) d v := by
  have ha : Is n { a with defers := [] } := ⟨hs, rfl⟩
  have := (fr_put (o := ⟨some d, .move (.const v), 0, "", #[], none⟩) ha (by simp [dstOk, Nat.blt_eq]; exact hd) v).2
  exact this

theorem WQ_range {i id p q : Nat} {g : Operand} {ty : TypeId} {ps : String} {af : Array Edge} {body : Code} {gf : Nat} {lb : Array Value} {pv : Nat → Value} {Kp : World → World → Prop} {S Sp : List Nat → Prop} {N : Nat}
    (hg : ev f g = .func (.func gf) #[] lb) (hok : fnOk P gf = true) (hp : Nat.blt p n = true) (hq : Nat.blt q n = true)
    (hseq : SeqStopsK (FW none) 6 P gf lb (fun j => #[pv j]) Kp S Sp N w) (hKt : ∀ {A B C : World}, Kp A B → Kp B C → Kp A C) (hKb : ∀ (W : World) (l : Nat) (o o' : Obj), w.heap.size ≤ l → W.heap[l]? = some o → o.isCells = false → o.isWalk = false → Kp W (W.putObj l o'))
    (I : List Nat → World → Prop) (hI : OwnFrom w.heap.size I) (h0 : I [] w)
    (hbody : ∀ (l : Nat) (pre : List Nat) (j : Nat) (W : World), I pre W → pre.length < N →
      Wf (some l) [] P n body (fun _ W' => KeepsFrom w.heap.size W W' ∧ Kp W W' ∧ I (pre ++ [j]) W') (fun _ _ => False) (fun _ _ _ => False) (upd (upd f p (pv j)) q (pv j)) W)
    (hdone : ∀ (D : Nat) (xs : List Nat) (W : World), w.heap.size ≤ D → S xs → I xs W → W.heap[D]? = some (.deferred (some [])) → ∀ a, IsD [markOf D] n a → fr a = f → Q .normal a W) :
    WQ none [] P n (.block i (.rangeFunc g #[p] (.region id #[⟨some q, .assign (.tmp p), ty, ps, af, none⟩] false) body)) Q f w := by
  intro a ha hf
  subst hf
  have hpn : p < n := by simpa [Nat.blt_eq] using hp
  have hqn : q < n := by simpa [Nat.blt_eq] using hq
  refine wpIn_block (wpIn_rangeFunc_ownG (n := 7) rfl (by decide) (by rw [ev_fr]; exact hg) trivial (fun args w => run_callFunc hok) hseq hKt hKb (Go.RowKit.Below.refl _ _) (fun _ => rfl)
    I (fun _ _ _ => False) hI (fun _ _ _ _ _ h _ _ => h) h0 (fun j => { tmps := (a.tmps.setIfInBounds p (pv j)).setIfInBounds q (pv j), defers := [] }) ?_ ?_ ?_ ?_)
  · intro l j W K hK
    refine wpIn_region_lit (l := [_]) ?_
    unfold wpListIn
    rw [if_pos (show Region.wanted _ _ = true from rfl)]
    refine ⟨fun _ _ => trivial, ?_⟩
    have hsz : ((#[p].zip #[pv j]).foldl (fun t (x : Nat × Value) => t.setIfInBounds x.1 x.2) a.tmps) = a.tmps.setIfInBounds p (pv j) := by simp
    rw [hsz]
    rw [semAt_FW rfl, ev_fr]
    have he : ev (fr { tmps := a.tmps.setIfInBounds p (pv j), defers := [] }) (.tmp p) = pv j := by
      rw [fr_set ha.size hpn]; simp [ev, upd]
    rw [x_assign he]
    exact hK
  · intro l pre j W hi hlen
    refine wpIn_m (wpIn_mono (hbody l pre j W hi hlen _ ⟨by simp [ha.size], rfl⟩ ?_) (fun e a' W' hq => ?_))
    · have h1 := fr_set (v := pv j) ha.size hpn
      have h2 := fr_set (a := { tmps := a.tmps.setIfInBounds p (pv j), defers := [] }) (v := pv j) (by simpa using ha.size) hqn
      rw [h2, h1]
    · cases e with
      | normal => exact hq.2
      | ret => exact hq.2.elim
      | exit i => exact hq.2.elim
      | goto l => exact hq.elim
      | panic c => exact hq.elim
      | outgrown => exact hq.elim
  · intro D xs W hD hS hi hW
    exact hdone D xs W hD hS hi hW _ ⟨ha.size, by rw [ha.defers]; rfl⟩ rfl
  · intro D c pre W _ _ h; exact h.elim
end
end E
end Go.Proofs.Ytinoebjhcmeppaa
