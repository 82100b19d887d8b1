/- The walk of the program's wal.Open. -/
import Derived.Test.YtinoebjhcmeppaaWalD
namespace Go.Proofs.Ytinoebjhcmeppaa
open E Sha
set_option maxRecDepth 100000
set_option maxHeartbeats 4000000

/-- The records that stand on a disk one behind the other, from a sector on. -/
inductive Runs (F : Nat → List Int) (n : Nat) : Nat → Nat → List (List Int) → Nat → Nat → Prop
  | stop {k a : Nat} : good F n k a = none → Runs F n k a [] k a
  | step {k a k' a' : Nat} {x : List Int} {xs : List (List Int)} : good F n k a = some x → Runs F n (k + 1) (a + (x.length + 75) / 64) xs k' a' → Runs F n k a (x :: xs) k' a'
theorem good_spec {F : Nat → List Int} {n k a : Nat} {x : List Int} (hF : ∀ i, i < n → (F i).length = 64) (h : good F n k a = some x) :
    1 ≤ x.length ∧ x.length ≤ 20000 ∧ a < n ∧ a + (x.length + 75) / 64 ≤ n ∧ x.length = num4 (F a) ∧ recAt F n a = some x ∧ sumB x k = wantAt F a := by
  unfold good at h
  cases hr : recAt F n a with
  | none => rw [hr] at h; cases h
  | some y =>
    rw [hr] at h
    simp only at h
    split at h
    · rename_i hs
      simp only [Option.some.injEq] at h
      subst h
      have hr2 := hr
      unfold recAt at hr2
      split at hr2
      · rename_i hc
        simp only [Option.some.injEq] at hr2
        have hl : y.length = num4 (F a) := by
          rw [← hr2]
          have := flat_len hF a ((num4 (F a) + 75) / 64) (by omega)
          simp [this]; omega
        refine ⟨by omega, by omega, hc.1, by omega, hl, rfl, hs⟩
      · cases hr2
    · cases h
theorem Runs.le {F : Nat → List Int} {n : Nat} (hF : ∀ i, i < n → (F i).length = 64) {k a : Nat} {xs : List (List Int)} {k' a' : Nat} (h : Runs F n k a xs k' a') (ha : a ≤ n) : a ≤ a' ∧ a' ≤ n ∧ k' = k + xs.length := by
  induction h with
  | stop _ => exact ⟨Nat.le_refl _, ha, by simp⟩
  | step hg _ ih =>
    have := good_spec hF hg
    have := ih (by omega)
    simp; omega
theorem Opn.low {w w' : World} {base bl bxl bxo bd k u : Nat} {recs : List (List Int)} {U : List Nat} (h : Opn w base bl bxl bxo bd k u recs) (hc : Chg U w w') (hU : ∀ k ∈ U, k < base) : Opn w' base bl bxl bxo bd k u recs := by
  obtain ⟨hlo, hb, hl, ⟨vout, vs, ho, hown, hr⟩, hlen⟩ := h
  have hn : ∀ b, base ≤ b → b ∉ U := fun b hb hm => by have := hU b hm; omega
  refine ⟨hlo, hc.at hb (hn _ hlo.2.1), hc.at hl (hn _ hlo.1), ⟨vout, vs, hc.at ho (hn _ hlo.2.2), own_chg hown hc (fun b hb => hn b (hown.lt b hb).1), ?_⟩, hlen⟩
  have : ∀ {vs : List Value} {xs : List (List Int)}, Recs w base vs xs → Recs w' base vs xs := by
    intro vs
    induction vs with
    | nil => intro xs hx; cases xs with
      | nil => trivial
      | cons x xs => exact hx.elim
    | cons v vs ih => intro xs hx; cases xs with
      | nil => exact hx.elim
      | cons x xs => exact ⟨⟨hx.1.1.chg hc (fun b hb => hn b (hx.1.2 b hb).1), fun b hb => ⟨(hx.1.2 b hb).1, (hx.1.2 b hb).2.chg hc (hn b (hx.1.2 b hb).1)⟩⟩, ih hx.2⟩
  exact this hr
theorem Dk.same {w : World} {bd bs bm n : Nat} {S S' : Nat → List Int} {D D' : Nat → Option (List Int)} (h : Dk w bd bs bm n S D) (hS : ∀ i, i < n → S i = S' i) (hD : ∀ i, D i = D' i) : Dk w bd bs bm n S' D' := by
  obtain ⟨hd, ⟨syn, hl, hs, hS0⟩, ⟨es, clock, hg, hm, he, hD0⟩⟩ := h
  exact ⟨hd, ⟨syn, hl, hs, fun i hi => (hS0 i hi).trans (hS i hi)⟩, ⟨es, clock, hg, hm, he, fun i => (hD0 i).trans (hD i)⟩⟩

def zero64 : List Int := List.replicate 64 0
theorem zero64_len : zero64.length = 64 := by simp [zero64]
theorem padS_nil : padS [] = zero64 := rfl
theorem zero64_inB : InB zero64 := fun x hx => by simp [zero64] at hx; subst hx; omega
theorem all_zero {xs : List Int} (hl : xs.length = 64) (h : ∀ c ∈ xs, c = 0) : xs = zero64 := List.eq_replicate_iff.2 ⟨hl, h⟩
theorem x_mkf {P : Program} {f : Fr} {w : World} {dst : Option Tmp} {ps : String} {af : Array Edge} {gd : Option (Nat × Bool)} {ty : TypeId} {k : FuncId} {xs : List Operand} {cs : Array Value} (hx : (xs.map (ev f)).toArray = cs) :
    (execOp (ev f) ⟨dst, .makeFunc (.func k) #[] xs.toArray, ty, ps, af, gd⟩).run P w = .ok (.value (.func (.func k) #[] cs)) w := by
  subst hx; simp [execOp, Instr.makeFunc]

section
variable {w : World} {bd bs bm n : Nat} {S : Nat → List Int} {D : Nat → Option (List Int)}
theorem f7_open (h : Dk w bd bs bm n S D) (hF : ∀ i, i < n → InB (cur S D i)) (hn : n ≤ 4096) :
    Calls Try.prog 7 #[ptr bd 0] w (Rv fun v w' => ∃ bl vout xs k u vs, v = .tuple #[ptr bl 0, vout, i64 0] ∧ Runs (cur S D) n 0 0 xs k u ∧ w.heap.size ≤ bl ∧ Lg w' bl bd k u ∧
      w'.ownsRow w.heap.size 37 1 vout vs.length vs ∧ Recs w' w.heap.size vs xs ∧
      Dk w' bd bs bm n (fun i => if i < u then cur S D i else zero64) (fun _ => none) ∧ Chg [bs, bm] w w') := by
  have hlt := h.lt
  have hlF : ∀ i, i < n → (cur S D i).length = 64 := fun i hi => h.lenC hi
  refine calls_W (args := [ptr bd 0]) Try.func7 rfl Try.ntmps7 rfl ?_
  refine W_seq ?_
  refine W_region rfl ?_
  refine L_val rfl (x_assign (by conv => lhs; whnf)) ?_
  refine L_val rfl (x_assign (by conv => lhs; whnf)) ?_
  refine L_val rfl (x_assign (by conv => lhs; whnf)) ?_
  refine L_nil ?_
  refine W_seq ?_
  refine W_seq ?_
  refine W_region rfl ?_
  refine L_val rfl (x_move (by conv => lhs; whnf)) ?_
  refine L_val rfl (x_eqlNil pt24 rfl rfl) ?_
  refine L_nil ?_
  refine W_false rfl ?_
  refine W_skip ?_
  refine W_seq ?_
  refine W_region rfl ?_
  refine L_val rfl (x_move (by conv => lhs; whnf)) ?_
  refine L_val rfl (x_build rfl (run_build w _ _ #[ptr bd 0, i64 0, i64 0] (by kernel_rfl))) ?_
  refine L_box rfl (by conv => lhs; whnf) (fun w1 hb1 hc1 hs1 => ?_)
  refine L_alloc zero28 rfl (fun w2 hb2 hc2 hs2 => ?_)
  refine L_store sz28 rfl rfl (v := ptr w.heap.size 0) rfl rfl hb2 (by decide) (fun w3 hb3 hc3 => ?_)
  refine L_nil ?_
  refine W_seq ?_
  refine W_region rfl ?_
  refine L_alloc zero22 rfl (fun w4 hb4 hc4 hs4 => ?_)
  refine L_nil ?_
  refine W_seq ?_
  have hc04 : Chg [] w w4 := (((hc1.same hc2).trans hc3 (by simp; omega)).same hc4)
  have hlog4 : Lg w4 w.heap.size bd 0 0 := hc4.at (hc3.at (hc2.at hb1 (by simp)) (by simp; omega)) (by simp)
  have hbox4 : w4.heap[w1.heap.size]? = some (.cells #[ptr w.heap.size 0] 28 (0, 0)) := hc4.at (by rw [hb3]; rfl) (by simp)
  have hs3 := hc3.size
  have hO4 : Opn w4 w.heap.size w.heap.size w1.heap.size w3.heap.size bd 0 0 [] := ⟨⟨Nat.le_refl _, by omega, by omega⟩, hbox4, hlog4, ⟨.slice none 0 0, [], hb4, World.ownsRow_nil _ _ _ _, trivial⟩, rfl⟩
  refine W_region rfl ?_
  refine L_val rfl (x_mkf (cs := #[ptr w1.heap.size 0, ptr w3.heap.size 0]) rfl) ?_
  refine L_val rfl (x_assign (by conv => lhs; whnf)) ?_
  refine L_nil ?_
  refine W_seq ?_
  refine W_block ?_
  refine W_loop (fun m f w5 => ∃ k u recs, m = n - u ∧ u ≤ n ∧ k ≤ u ∧ Frm f [(0, ptr bd 0), (5, ptr w1.heap.size 0), (6, ptr w3.heap.size 0), (7, .func (.func 20) #[] #[ptr w1.heap.size 0, ptr w3.heap.size 0])] ∧
      Opn w5 w.heap.size w.heap.size w1.heap.size w3.heap.size bd k u recs ∧ Chg [] w w5 ∧ ∀ ys k' u', Runs (cur S D) n k u ys k' u' → Runs (cur S D) n 0 0 (recs ++ ys) k' u') n
    ⟨0, 0, [], by omega, by omega, by omega, ⟨rfl, rfl, rfl, rfl, trivial⟩, hO4, hc04, fun ys k' u' hr => hr⟩ (fun m f w5 hI => ?_)
  obtain ⟨k, u, recs, rfl, hun, hku, hFr, hO5, hc5, hruns⟩ := hI
  obtain ⟨g, rfl⟩ := hFr.eta
  refine W_seq ?_
  refine W_seq ?_
  refine W_region rfl ?_
  refine L_val rfl (x_move (by conv => lhs; whnf)) ?_
  refine L_call rfl (x_callC (args := #[ptr w1.heap.size 0, ptr w3.heap.size 0]) rfl ok20 (by simp)) (f20_next (h.chg0 hc5) hF hn hO5 hc5.size (by omega) (by omega)) (fun v w6 ⟨hu6, hv⟩ => ?_)
  have hc6 : Chg [] w w6 := hc5.base' hu6
  cases hg : good (cur S D) n k u with
  | some x =>
    rw [hg] at hv
    obtain ⟨rfl, hO6⟩ := hv
    have hsp := good_spec hlF hg
    refine L_nil ?_
    refine W_true rfl ?_
    refine W_skip ?_
    refine W_block ?_
    refine W_skip ?_
    exact ⟨n - (u + (x.length + 75) / 64), by omega, k + 1, u + (x.length + 75) / 64, recs ++ [x], rfl, by omega, by omega, ⟨rfl, rfl, rfl, rfl, trivial⟩, hO6, hc6, fun ys k' u' hr => by
      rw [List.append_assoc]; exact hruns _ _ _ (.step hg hr)⟩
  | none =>
    rw [hg] at hv
    obtain ⟨rfl, hO6⟩ := hv
    have hR : Runs (cur S D) n 0 0 recs k u := by have := hruns [] k u (.stop hg); simpa using this
    refine L_nil ?_
    refine W_false rfl ?_
    refine W_exit ?_
    refine W_seq ?_
    refine W_seq ?_
    refine W_region rfl ?_
    refine L_val rfl (x_load sc28 rfl (cell_at (v := ptr w.heap.size 0) hO6.box rfl)) ?_
    refine L_val rfl (x_nilCheck rfl) ?_
    refine L_val rfl (x_field fo_50_2 rfl) ?_
    refine L_val rfl (x_load sc3 rfl (cell_at (v := i64 (u : Nat)) hO6.log rfl)) ?_
    refine L_val rfl (x_assign (by conv => lhs; whnf)) ?_
    refine L_nil ?_
    refine W_block ?_
    refine W_loop (fun m f w7 => ∃ at0 D', m = n - at0 ∧ u ≤ at0 ∧ at0 ≤ n ∧ Frm f [(0, ptr bd 0), (5, ptr w1.heap.size 0), (6, ptr w3.heap.size 0), (8, i64 (at0 : Nat))] ∧
        Opn w7 w.heap.size w.heap.size w1.heap.size w3.heap.size bd k u recs ∧ Dk w7 bd bs bm n S D' ∧ Chg [bm] w w7 ∧ ∀ i, i < n → cur S D' i = if u ≤ i ∧ i < at0 then zero64 else cur S D i) (n - u)
      ⟨u, D, rfl, Nat.le_refl _, hun, ⟨rfl, rfl, rfl, rfl, trivial⟩, hO6, h.chg0 hc6, hc6.mono (by simp), fun i hi => by rw [if_neg (by omega)]⟩ (fun m f w7 hI => ?_)
    obtain ⟨at0, D', rfl, hu0, hatn, hFr, hO7, hD7, hc7, hcur7⟩ := hI
    obtain ⟨g2, rfl⟩ := hFr.eta
    refine W_seq ?_
    refine W_seq ?_
    refine W_region rfl ?_
    refine L_val rfl (x_move (by conv => lhs; whnf)) ?_
    refine L_val rfl (x_move (by conv => lhs; whnf)) ?_
    refine L_enterQ rfl (x_call ok23) (f23_len hD7) ?_
    refine L_val rfl (x_lss rfl rfl rfl) ?_
    refine L_nil ?_
    by_cases hcond : at0 < n
    · refine W_true (congrArg Value.bool (decide_eq_true (by omega))) ?_
      refine W_skip ?_
      refine W_seq ?_
      refine W_block ?_
      refine W_seq ?_
      refine W_region rfl ?_
      refine L_val rfl (x_move (by conv => lhs; whnf)) ?_
      refine L_val rfl (x_move (by conv => lhs; whnf)) ?_
      refine L_call rfl (x_call ok24) (f24_read hD7 at0) (fun v w8 ⟨hc8, hv⟩ => ?_)
      rw [if_pos hcond] at hv
      obtain ⟨b, rfl, hbs, hbB⟩ := hv
      have hl8 := hD7.lenC hcond
      have hcurE := hcur7 at0 hcond
      rw [if_neg (by omega)] at hcurE
      refine L_val rfl (x_move (by conv => lhs; whnf)) ?_
      refine L_val rfl (x_extract rfl rfl) ?_
      refine L_val rfl (x_extract rfl rfl) ?_
      refine L_val rfl (x_assign (by conv => lhs; whnf)) ?_
      refine L_val rfl (x_assign (by conv => lhs; whnf)) ?_
      refine L_nil ?_
      refine W_seq ?_
      refine W_region rfl ?_
      refine L_val rfl (x_move (by conv => lhs; whnf)) ?_
      refine L_call rfl (x_call ok25) (f25_contains (L8_bt hbB hl8)) (fun v w9 ⟨hv, hw9⟩ => ?_)
      have hw9' := hw9.symm
      subst hw9'
      have hD8 := hD7.chg0 hc8
      have hO8 := hO7.chg0 hc8
      have hc08 : Chg [bm] w w8 := hc7.same (hc8.mono (by simp))
      rcases hv with ⟨rfl, hnz⟩ | ⟨rfl, hz⟩
      · refine L_nil ?_
        refine W_true rfl ?_
        refine W_region rfl ?_
        refine L_val rfl (x_move (by conv => lhs; whnf)) ?_
        refine L_val rfl (x_move (by conv => lhs; whnf)) ?_
        refine L_call rfl (x_call ok27) (f27_write (ys := []) hD8 (Rw.nil w8) hcond (by simp)) (fun v w9 ⟨_, hD9, hc9⟩ => ?_)
        refine L_nil ?_
        refine W_region rfl ?_
        refine L_val rfl (x_move (by conv => lhs; whnf)) ?_
        refine L_val rfl (x_add rfl rfl (wr64 (c := ((at0 + 1 : Nat) : Int)) (by omega) (by omega) (by omega))) ?_
        refine L_val rfl (x_assign (by conv => lhs; whnf)) ?_
        refine L_nil ?_
        refine ⟨n - (at0 + 1), by omega, at0 + 1, _, rfl, by omega, by omega, ⟨rfl, rfl, rfl, rfl, trivial⟩, hO8.low hc9 (by simp; omega), hD9, hc08.same hc9, fun i hi => ?_⟩
        have := hcur7 i hi
        unfold cur at this ⊢
        by_cases e : i = at0
        · simp only [e, if_true, Option.getD_some]
          rw [if_pos (by omega)]; rfl
        · simp only [e, if_false]
          rw [this]
          by_cases e2 : u ≤ i ∧ i < at0
          · rw [if_pos e2, if_pos (by omega)]
          · rw [if_neg e2, if_neg (by omega)]
      · refine L_nil ?_
        refine W_false rfl ?_
        refine W_skip ?_
        refine W_region rfl ?_
        refine L_val rfl (x_move (by conv => lhs; whnf)) ?_
        refine L_val rfl (x_add rfl rfl (wr64 (c := ((at0 + 1 : Nat) : Int)) (by omega) (by omega) (by omega))) ?_
        refine L_val rfl (x_assign (by conv => lhs; whnf)) ?_
        refine L_nil ?_
        refine ⟨n - (at0 + 1), by omega, at0 + 1, D', rfl, by omega, by omega, ⟨rfl, rfl, rfl, rfl, trivial⟩, hO8, hD8, hc08, fun i hi => ?_⟩
        by_cases e : i = at0
        · subst e
          rw [if_pos (by omega)]; exact all_zero hl8 hz
        · rw [hcur7 i hi]
          by_cases e2 : u ≤ i ∧ i < at0
          · rw [if_pos e2, if_pos (by omega)]
          · rw [if_neg e2, if_neg (by omega)]
    · refine W_false (congrArg Value.bool (decide_eq_false (by omega))) ?_
      refine W_exit ?_
      refine W_seq ?_
      refine W_region rfl ?_
      refine L_val rfl (x_move (by conv => lhs; whnf)) ?_
      refine L_call rfl (x_call ok28) (f28_sync hD7) (fun v w8 ⟨hD8, hc8⟩ => ?_)
      refine L_nil ?_
      refine W_seq ?_
      have hO8 := hO7.low hc8 (by simp; omega)
      obtain ⟨hlo, hbox8, hlog8, ⟨vout, vs, hout8, hown8, hrecs8⟩, hlen8⟩ := hO8
      refine W_still mixed (by kernel_rfl) rfl ?_
      refine L_val rfl (x_load sc28 rfl (cell_at (v := ptr w.heap.size 0) hbox8 rfl)) ?_
      refine L_val rfl (x_load sc22 rfl (cell_at (v := vout) hout8 rfl)) ?_
      refine L_val rfl (x_assign (by conv => lhs; whnf)) ?_
      refine L_val rfl (x_assign (v := vout) rfl) ?_
      refine L_val rfl (x_assign (by conv => lhs; whnf)) ?_
      refine L_nil ?_
      refine W_ret ?_
      refine res3 rfl rfl rfl rfl ⟨w.heap.size, vout, recs, k, u, vs, rfl, hR, Nat.le_refl _, hlog8, hown8, hrecs8.chg (Chg.drew [] _) (by simp), ?_, ?_⟩
      · refine Dk.same (hD8.chg0 (Chg.drew [] w8)) (fun i hi => ?_) (fun _ => rfl)
        rw [hcur7 i hi]
        by_cases e : i < u
        · rw [if_neg (by omega), if_pos e]
        · rw [if_pos (by omega), if_neg e]
      · exact ((hc7.mono (by simp)).same (hc8.mono (by simp))).d
end
end Go.Proofs.Ytinoebjhcmeppaa
