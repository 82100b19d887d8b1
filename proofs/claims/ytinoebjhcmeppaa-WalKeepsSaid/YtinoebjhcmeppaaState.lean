/- A log and its disk as one state: what Open, Put and Sync make of it. -/
import Derived.Test.YtinoebjhcmeppaaSmall
import Derived.Test.YtinoebjhcmeppaaLaw
namespace Go.Proofs.Ytinoebjhcmeppaa
open E Sha

theorem cur_putD (S : Nat → List Int) (D : Nat → Option (List Int)) (B : List Int) (u m : Nat) : cur S (putD D B u m) = putF (cur S D) B u m := by
  funext i
  unfold cur putD putF piece
  by_cases h : u ≤ i ∧ i < u + m
  · rw [if_pos h, if_pos h]; rfl
  · rw [if_neg h, if_neg h]
theorem inB_append {a b : List Int} (h1 : InB a) (h2 : InB b) : InB (a ++ b) := fun x hx => (List.mem_append.1 hx).elim (h1 x) (h2 x)
theorem inB_sub {a b : List Int} (h : InB b) (hs : ∀ x ∈ a, x ∈ b) : InB a := fun x hx => h x (hs x hx)
theorem inB_zeros (m : Nat) : InB (List.replicate m 0) := fun x hx => by rw [List.eq_of_mem_replicate hx]; omega
theorem inB_nb (x : Int) (j : Nat) : InB (nb x j) := fun y hy => by
  simp only [nb, List.mem_map] at hy
  obtain ⟨i, _, rfl⟩ := hy
  exact wrap8_range _
theorem inB_recB {ys : List Int} (k : Int) (h : InB ys) : InB (recB ys k) :=
  inB_append (inB_append (inB_nb _ _) (fun x hx => sha_range _ x (List.mem_of_mem_take hx))) h
theorem inB_piece {B : List Int} (h : InB B) (j : Nat) : InB (padS (piece B j)) :=
  inB_append (inB_sub h (fun x hx => List.mem_of_mem_drop (List.mem_of_mem_take hx))) (inB_zeros _)

/-- A log that holds these records, and its disk, zero behind them. -/
structure St (w : World) (bd bs bm bl n : Nat) (S : Nat → List Int) (D : Nat → Option (List Int)) (recs : List (List Int)) (k u : Nat) : Prop where
  dk : Dk w bd bs bm n S D
  log : Lg w bl bd k u
  runs : Runs (cur S D) n 0 0 recs k u
  zero : ∀ i, u ≤ i → i < n → cur S D i = zero64
  inb : ∀ i, i < n → InB (cur S D i)
  ule : u ≤ n
  kle : k ≤ u
theorem St.chg {w w' : World} {bd bs bm bl n : Nat} {S : Nat → List Int} {D : Nat → Option (List Int)} {recs : List (List Int)} {k u : Nat} {U : List Nat} (h : St w bd bs bm bl n S D recs k u) (hc : Chg U w w') (h1 : bd ∉ U) (h2 : bs ∉ U) (h3 : bm ∉ U) (h4 : bl ∉ U) : St w' bd bs bm bl n S D recs k u :=
  ⟨h.dk.chg hc h1 h2 h3, hc.at h.log h4, h.runs, h.zero, h.inb, h.ule, h.kle⟩
theorem St.chg0 {w w' : World} {bd bs bm bl n : Nat} {S : Nat → List Int} {D : Nat → Option (List Int)} {recs : List (List Int)} {k u : Nat} (h : St w bd bs bm bl n S D recs k u) (hc : Chg [] w w') : St w' bd bs bm bl n S D recs k u :=
  h.chg hc (by simp) (by simp) (by simp) (by simp)
theorem St.put {w w' : World} {bd bs bm bl n : Nat} {S : Nat → List Int} {D : Nat → Option (List Int)} {recs : List (List Int)} {k u : Nat} {ys : List Int} (h : St w bd bs bm bl n S D recs k u) (hp : PutOk w w' bd bs bm bl n S D k u ys) (hy : InB ys)
    (h1 : 1 ≤ ys.length) (h2 : ys.length ≤ 20000) (hfit : u + (ys.length + 75) / 64 ≤ n) : St w' bd bs bm bl n S (putD D (recB ys k) u ((ys.length + 75) / 64)) (recs ++ [ys]) (k + 1) (u + (ys.length + 75) / 64) := by
  refine ⟨hp.dk, hp.log, ?_, fun i hi hin => ?_, fun i hi => ?_, hfit, by have := h.kle; omega⟩
  · rw [cur_putD]; exact runs_put (fun i hi => h.dk.lenC hi) h.runs h.zero h1 h2 hfit
  · rw [cur_putD]; unfold putF; rw [if_neg (by omega)]; exact h.zero i (by omega) hin
  · rw [cur_putD]; unfold putF
    by_cases e : u ≤ i ∧ i < u + (ys.length + 75) / 64
    · rw [if_pos e]; exact inB_piece (inB_recB _ hy) _
    · rw [if_neg e]; exact h.inb i hi
theorem cur_none (S : Nat → List Int) : cur S (fun _ => none) = S := rfl
/-- Behind a Sync. -/
theorem St.sync {w w' : World} {bd bs bm bl n : Nat} {S : Nat → List Int} {D : Nat → Option (List Int)} {recs : List (List Int)} {k u : Nat} (h : St w bd bs bm bl n S D recs k u) (hd : Dk w' bd bs bm n (cur S D) (fun _ => none)) (hl : Lg w' bl bd k u) : St w' bd bs bm bl n (cur S D) (fun _ => none) recs k u :=
  ⟨hd, hl, h.runs, h.zero, h.inb, h.ule, h.kle⟩
theorem kle_of_runs {F : Nat → List Int} {n : Nat} (hF : ∀ i, i < n → (F i).length = 64) {k a : Nat} {xs : List (List Int)} {k' a' : Nat} (h : Runs F n k a xs k' a') (hka : k ≤ a) : k' ≤ a' := by
  induction h with
  | stop _ => exact hka
  | step hg _ ih =>
    have := good_spec hF hg
    exact ih (by omega)
/-- Behind an Open. -/
theorem St.opened {w : World} {bd bs bm bl n : Nat} {F : Nat → List Int} {xs : List (List Int)} {k u : Nat} (hlen : ∀ i, i < n → (F i).length = 64) (hin : ∀ i, i < n → InB (F i)) (hr : Runs F n 0 0 xs k u) (hd : Dk w bd bs bm n (fun i => if i < u then F i else zero64) (fun _ => none)) (hl : Lg w bl bd k u) :
    St w bd bs bm bl n (fun i => if i < u then F i else zero64) (fun _ => none) xs k u := by
  have hle := hr.le hlen (Nat.zero_le _)
  refine ⟨hd, hl, ?_, fun i hi _ => ?_, fun i hi => ?_, hle.2.1, kle_of_runs hlen hr (Nat.le_refl _)⟩
  · rw [cur_none]
    have := runs_on hlen hr (Nat.zero_le _) (F' := fun i => if i < u then F i else zero64) (fun i hi => (if_pos hi).symm) (.stop (good_zero (fun _ => if_neg (Nat.lt_irrefl _))))
    simpa using this
  · rw [cur_none]; exact if_neg (by omega)
  · rw [cur_none]
    by_cases e : i < u
    · rw [if_pos e]; exact hin i hi
    · rw [if_neg e]; exact zero64_inB
theorem lg_ne {w : World} {bd bs bm bl n k u : Nat} {S : Nat → List Int} {D : Nat → Option (List Int)} (hd : Dk w bd bs bm n S D) (hl : Lg w bl bd k u) : bl ≠ bd ∧ bl ≠ bs ∧ bl ≠ bm := by
  refine ⟨fun e => ?_, fun e => ?_, fun e => ?_⟩
  · subst e; have h9 : w.heap[bl]? = _ := hl; have h10 := hd.desc; rw [h9] at h10; simp at h10
  · subst e; obtain ⟨syn, _, hs, _⟩ := hd.syn; have h9 : w.heap[bl]? = _ := hl; rw [h9] at hs; simp at hs
  · subst e; obtain ⟨es, clock, _, hm, _⟩ := hd.dirty; have h9 : w.heap[bl]? = _ := hl; rw [h9] at hm; simp [mobj] at hm
/-- A crash that keeps nothing and tears nothing. -/
theorem crS_nothing (S : Nat → List Int) (D : Nat → Option (List Int)) (m : Int) (i : Nat) : crS S D [] (-1) m i = S i := by
  cases h : D i with
  | none => unfold crS; rw [h]
  | some s => rw [crS_some h, if_neg (by simp), if_neg (by omega)]
end Go.Proofs.Ytinoebjhcmeppaa
