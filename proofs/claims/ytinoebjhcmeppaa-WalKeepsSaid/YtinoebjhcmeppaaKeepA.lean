/- The program's log and the document's side by side: what each step keeps. -/
import Derived.Test.YtinoebjhcmeppaaRefI
namespace Go.Proofs.Ytinoebjhcmeppaa
open E Sha
set_option maxRecDepth 100000
set_option maxHeartbeats 4000000

/-- The program's blocks lie ahead of s, the document's behind. -/
def Ap (bd bs bm bl bx br by' s : Nat) : Prop := bd < s ∧ bs < s ∧ bm < s ∧ bl < s ∧ s ≤ bx ∧ s ≤ br ∧ s ≤ by'
/-- A log of the program and one of the document, alike. -/
structure Jn (w : World) (bd bs bm bl bx br by' : Nat) (S : Nat → List Int) (D : Nat → Option (List Int)) (recs : List (List Int)) (k u : Nat) : Prop where
  st : St w bd bs bm bl 60 S D recs k u
  xd : Xd w bx br 60 (cur S D) S (fun i => (D i).isSome)
  xl : Xl w by' bx k u
  ins : ∀ i, i < 60 → InB (S i)
section
variable {w w1 w2 : World} {bd bs bm bl bx br by' s : Nat} {S : Nat → List Int} {D : Nat → Option (List Int)} {recs : List (List Int)} {k u : Nat}
theorem Jn.chg0 (h : Jn w bd bs bm bl bx br by' S D recs k u) (hc : Chg [] w w1) : Jn w1 bd bs bm bl bx br by' S D recs k u :=
  ⟨h.st.chg0 hc, h.xd.chg0 hc, hc.at h.xl (by simp), h.ins⟩
theorem Jn.mid (h : Jn w bd bs bm bl bx br by' S D recs k u) (ha : Ap bd bs bm bl bx br by' s) {U : List Nat} (hc : Chg U w w1) (hU : ∀ j ∈ U, j < s) : Xd w1 bx br 60 (cur S D) S (fun i => (D i).isSome) ∧ Xl w1 by' bx k u := by
  obtain ⟨_, _, _, _, h1, h2, h3⟩ := ha
  have hn : ∀ b, s ≤ b → b ∉ U := fun b hb hm => by have := hU b hm; omega
  exact ⟨h.xd.chg hc (hn _ h1) (hn _ h2), hc.at h.xl (hn _ h3)⟩
theorem Ap.low (ha : Ap bd bs bm bl bx br by' s) {U : List Nat} (hU : ∀ j ∈ U, s ≤ j) : bd ∉ U ∧ bs ∉ U ∧ bm ∉ U ∧ bl ∉ U := by
  obtain ⟨h1, h2, h3, h4, _⟩ := ha
  exact ⟨fun hm => by have := hU _ hm; omega, fun hm => by have := hU _ hm; omega, fun hm => by have := hU _ hm; omega, fun hm => by have := hU _ hm; omega⟩
theorem isSome_putD (D : Nat → Option (List Int)) (B : List Int) (u m i : Nat) : (if u ≤ i ∧ i < u + m then true else (D i).isSome) = (putD D B u m i).isSome := by
  unfold putD
  by_cases e : u ≤ i ∧ i < u + m
  · rw [if_pos e, if_pos e]; rfl
  · rw [if_neg e, if_neg e]
theorem Jn.put (h : Jn w bd bs bm bl bx br by' S D recs k u) (ha : Ap bd bs bm bl bx br by' s) {B : List Int} {m : Nat} {recs' : List (List Int)} {k' u' : Nat} (hs : St w1 bd bs bm bl 60 S (putD D B u m) recs' k' u')
    (hx : Xd w2 bx br 60 (putF (cur S D) B u m) S (fun i => if u ≤ i ∧ i < u + m then true else (D i).isSome)) (hl : Xl w2 by' bx k' u') {U : List Nat} (hc : Chg U w1 w2) (hU : ∀ j ∈ U, s ≤ j) :
    Jn w2 bd bs bm bl bx br by' S (putD D B u m) recs' k' u' := by
  obtain ⟨h1, h2, h3, h4⟩ := ha.low hU
  exact ⟨hs.chg hc h1 h2 h3 h4, hx.same (fun i _ => by rw [cur_putD]) (fun _ _ => rfl) (fun i _ => isSome_putD D B u m i), hl, h.ins⟩
theorem Jn.sync (h : Jn w bd bs bm bl bx br by' S D recs k u) (ha : Ap bd bs bm bl bx br by' s) (hd : Dk w1 bd bs bm 60 (cur S D) (fun _ => none)) (hl1 : Lg w1 bl bd k u)
    (hx : Xd w2 bx br 60 (cur S D) (cur S D) (fun _ => false)) (hl : Xl w2 by' bx k u) {U : List Nat} (hc : Chg U w1 w2) (hU : ∀ j ∈ U, s ≤ j) :
    Jn w2 bd bs bm bl bx br by' (cur S D) (fun _ => none) recs k u := by
  obtain ⟨h1, h2, h3, h4⟩ := ha.low hU
  exact ⟨(h.st.sync hd hl1).chg hc h1 h2 h3 h4, hx, hl, h.st.inb⟩
end
theorem crI_eq (S : Nat → List Int) (D : Nat → Option (List Int)) (keep : List Int) (torn m : Int) (i : Nat) : crI (cur S D) S (fun i => (D i).isSome) keep torn m i = crS S D keep torn m i := by
  unfold crI
  cases h : D i with
  | none =>
    have e : crS S D keep torn m i = S i := by unfold crS; rw [h]
    rw [e, if_neg (by simp [h])]
    unfold cur; rw [h]; rfl
  | some s =>
    have e : cur S D i = s := by unfold cur; rw [h]; rfl
    rw [crS_some h, e]
    by_cases hk : (i : Int) ∈ keep
    · rw [if_pos hk, if_neg (fun hh => hh.2 hk)]
    · rw [if_neg hk, if_pos ⟨by simp [h], hk⟩]
theorem inB_crS {S : Nat → List Int} {D : Nat → Option (List Int)} {n : Nat} (hS : ∀ i, i < n → InB (S i)) (hD : ∀ i, i < n → InB (cur S D i)) (keep : List Int) (torn m : Int) (i : Nat) (hi : i < n) : InB (crS S D keep torn m i) := by
  cases h : D i with
  | none => unfold crS; rw [h]; exact hS i hi
  | some s =>
    have e : cur S D i = s := by unfold cur; rw [h]; rfl
    have hs := hD i hi
    rw [e] at hs
    rw [crS_some h]
    split
    · exact hs
    · split
      · exact inB_append (inB_sub hs (fun x hx => List.mem_of_mem_take hx)) (inB_sub (hS i hi) (fun x hx => List.mem_of_mem_drop hx))
      · exact hS i hi
theorem runs_size {F : Nat → List Int} {n k a : Nat} {xs : List (List Int)} {k' a' : Nat} (h : Runs F n k a xs k' a') (hx : ∀ x ∈ xs, x.length ≤ 150) : a' ≤ a + 3 * xs.length := by
  induction h with
  | stop _ => simp
  | @step k a k' a' x xs hg hr ih =>
    have h1 := ih (fun y hy => hx y (by simp [hy]))
    have h2 := hx x (by simp)
    simp only [List.length_cons]
    omega
theorem runs_inB {F : Nat → List Int} {n : Nat} (hl : ∀ i, i < n → (F i).length = 64) (hF : ∀ i, i < n → InB (F i)) {k a : Nat} {xs : List (List Int)} {k' a' : Nat} (h : Runs F n k a xs k' a') : ∀ x ∈ xs, InB x := by
  induction h with
  | stop _ => simp
  | @step k a k' a' x xs hg hr ih =>
    intro y hy
    rcases List.mem_cons.1 hy with rfl | hy
    · have hs := good_spec hl hg
      obtain ⟨h1, h2, h3, h4, h5, h6, h7⟩ := hs
      unfold recAt at h6
      split at h6
      · simp only [Option.some.injEq] at h6
        rw [← h6]
        exact inB_sub (inB_flat hF a _ (by omega)) (fun x hx => List.mem_of_mem_drop (List.mem_of_mem_take hx))
      · cases h6
    · exact ih y hy
theorem Rs.append {w : World} : ∀ {vs us : List Value} {xs ys : List (List Int)}, Rs w vs xs → Rs w us ys → Rs w (vs ++ us) (xs ++ ys)
  | [], _, [], _, _, h => h
  | _ :: _, _, _ :: _, _, h, h2 => ⟨h.1, Rs.append h.2 h2⟩
  | [], _, _ :: _, _, h, _ => h.elim
  | _ :: _, _, [], _, h, _ => h.elim
theorem rs_one {w : World} : ∀ {vs : List Value} {xs : List (List Int)}, Rs w vs xs → ∀ u ∈ vs, u.oneCell' = true
  | [], _, _, u, hu => by cases hu
  | v :: vs, x :: xs, h, u, hu => by
    rcases List.mem_cons.1 hu with rfl | hu
    · obtain ⟨a, cap, e⟩ := h.1.len; rw [e]; rfl
    · exact rs_one h.2 u hu
  | _ :: _, [], h, _, _ => h.elim
theorem sec_le {m : Nat} (h : m ≤ 150) : (m + 75) / 64 ≤ 3 := by omega
end Go.Proofs.Ytinoebjhcmeppaa
