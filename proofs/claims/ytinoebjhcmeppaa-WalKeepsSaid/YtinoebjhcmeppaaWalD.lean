/- The walk of wal.Open's closure that takes a record. -/
import Derived.Test.YtinoebjhcmeppaaWalC
namespace Go.Proofs.Ytinoebjhcmeppaa
open E Sha
set_option maxRecDepth 100000
set_option maxHeartbeats 4000000

/-- The record at a sector, if its sum is right. -/
def good (F : Nat → List Int) (n k a : Nat) : Option (List Int) :=
  match recAt F n a with
  | some x => if sumB x k = wantAt F a then some x else none
  | none => none
/-- Slices that hold records. -/
def Recs (w : World) (base : Nat) : List Value → List (List Int) → Prop
  | [], [] => True
  | v :: vs, x :: xs => (Bt w v x ∧ ∀ b, v.ownBlock = some b → base ≤ b ∧ Bk w b) ∧ Recs w base vs xs
  | _, _ => False
theorem Recs.len {w : World} {base : Nat} : ∀ {vs : List Value} {xs : List (List Int)}, Recs w base vs xs → vs.length = xs.length
  | [], [], _ => rfl
  | _ :: vs, _ :: xs, h => by simp [Recs.len h.2]
  | [], _ :: _, h => h.elim
  | _ :: _, [], h => h.elim
theorem Recs.chg {w w' : World} {base : Nat} {U : List Nat} (hc : Chg U w w') (hU : ∀ b, Bk w b → b ∉ U) : ∀ {vs : List Value} {xs : List (List Int)}, Recs w base vs xs → Recs w' base vs xs
  | [], [], _ => trivial
  | v :: vs, x :: xs, h => ⟨⟨h.1.1.chg hc (fun b hb => hU b (h.1.2 b hb).2), fun b hb => ⟨(h.1.2 b hb).1, (h.1.2 b hb).2.chg hc (hU b (h.1.2 b hb).2)⟩⟩, Recs.chg hc hU h.2⟩
  | [], _ :: _, h => h.elim
  | _ :: _, [], h => h.elim
theorem Recs.add {w : World} {base : Nat} {v : Value} {x : List Int} (hv : Bt w v x ∧ ∀ b, v.ownBlock = some b → base ≤ b ∧ Bk w b) : ∀ {vs : List Value} {xs : List (List Int)}, Recs w base vs xs → Recs w base (vs ++ [v]) (xs ++ [x])
  | [], [], _ => ⟨hv, trivial⟩
  | _ :: _, _ :: _, h => ⟨h.1, Recs.add hv h.2⟩
  | [], _ :: _, h => h.elim
  | _ :: _, [], h => h.elim

/-- What Open holds while it takes the records. -/
structure Opn (w : World) (base bl bxl bxo bd k u : Nat) (recs : List (List Int)) : Prop where
  lo : base ≤ bl ∧ base ≤ bxl ∧ base ≤ bxo
  box : w.heap[bxl]? = some (.cells #[ptr bl 0] 28 (0, 0))
  log : Lg w bl bd k u
  out : ∃ vout vs, w.heap[bxo]? = some (.cells #[vout] 22 (0, 0)) ∧ w.ownsRow base 37 1 vout vs.length vs ∧ Recs w base vs recs
  len : recs.length = k
theorem Opn.chg0 {w w' : World} {base bl bxl bxo bd k u : Nat} {recs : List (List Int)} (h : Opn w base bl bxl bxo bd k u recs) (hc : Chg [] w w') : Opn w' base bl bxl bxo bd k u recs := by
  obtain ⟨hlo, hb, hl, ⟨vout, vs, ho, hown, hr⟩, hlen⟩ := h
  exact ⟨hlo, hc.at hb (by simp), hc.at hl (by simp), ⟨vout, vs, hc.at ho (by simp), own_chg hown hc (by simp), hr.chg hc (by simp)⟩, hlen⟩

theorem fin20 {w w4 w5 w6 : World} {base bl bxl bxo bd k u k' u' : Nat} {recs : List (List Int)}
    (h : (base ≤ bl ∧ base ≤ bxl ∧ base ≤ bxo) ∧ w4.heap[bxl]? = some (.cells #[ptr bl 0] 28 (0, 0)) ∧ Lg w4 bl bd k u ∧ ∃ vout vs, w4.heap[bxo]? = some (.cells #[vout] 22 (0, 0)) ∧ w4.ownsRow base 37 1 vout vs.length vs ∧ Recs w4 base vs recs)
    (hup : Upto base w w4) (hlen : recs.length = k')
    (hb5 : w5.heap[bl]? = some (.cells (#[ptr bd 0, i64 (k : Nat), i64 (u : Nat)].setIfInBounds (0 + 1) (i64 (k' : Nat))) 50 (0, 0))) (hc5 : Chg [bl] w4.drew w5)
    (hb6 : w6.heap[bl]? = some (.cells ((#[ptr bd 0, i64 (k : Nat), i64 (u : Nat)].setIfInBounds (0 + 1) (i64 (k' : Nat))).setIfInBounds (0 + 2) (i64 (u' : Nat))) 50 (0, 0))) (hc6 : Chg [bl] w5 w6) :
    Upto base w w6 ∧ Value.bool true = .bool true ∧ Opn w6 base bl bxl bxo bd k' u' recs := by
  obtain ⟨hlo, hbox, hlog, ⟨vout, vs, hout, hown, hrecs⟩⟩ := h
  have hc : Chg [bl] w4 w6 := (((Chg.refl [bl] w4).d).same hc5).same hc6
  have hlog' : w4.heap[bl]? = some (.cells #[ptr bd 0, i64 (k : Nat), i64 (u : Nat)] 50 (0, 0)) := hlog
  have ne1 : bxl ∉ [bl] := by intro hm; have hm : bxl = bl := by simpa using hm
                              subst hm; rw [hbox] at hlog'; simp at hlog'
  have ne2 : bxo ∉ [bl] := by intro hm; have hm : bxo = bl := by simpa using hm
                              subst hm; rw [hout] at hlog'; simp at hlog'
  refine ⟨hup.trans (Upto.of hc (by simpa using hlo.1)), rfl, ⟨hlo, hc.at hbox ne1, by unfold Lg; rw [hb6]; rfl, ⟨vout, vs, hc.at hout ne2, own_chg hown hc (fun b hb hm => ?_), hrecs.chg hc (fun b hb hm => ?_)⟩, hlen⟩⟩
  · have hm : b = bl := by simpa using hm
    subst hm
    exact own_ne hlog' (by decide) hown (by simp [hb])
  · have hm : b = bl := by simpa using hm
    exact hb.ne hlog' (by decide) hm

section
variable {w : World} {bd bs bm n : Nat} {S : Nat → List Int} {D : Nat → Option (List Int)}
theorem f20_next (h : Dk w bd bs bm n S D) (hF : ∀ i, i < n → InB (cur S D i)) (hn : n ≤ 4096) {base bl bxl bxo k u : Nat} {recs : List (List Int)} (hO : Opn w base bl bxl bxo bd k u recs) (hbase : base ≤ w.heap.size) (hk : k ≤ 4096) (hu : u ≤ 4096) :
    Calls Try.prog 20 #[ptr bxl 0, ptr bxo 0] w (Rv fun v w' => Upto base w w' ∧
      match good (cur S D) n k u with
      | some x => v = .bool true ∧ Opn w' base bl bxl bxo bd (k + 1) (u + (x.length + 75) / 64) (recs ++ [x])
      | none => v = .bool false ∧ Opn w' base bl bxl bxo bd k u recs) := by
  have hmx := max_big
  refine calls_W (args := [ptr bxl 0, ptr bxo 0]) Try.func20 rfl Try.ntmps20 rfl ?_
  refine W_seq ?_
  refine W_region rfl ?_
  refine L_val rfl (x_assign (by conv => lhs; whnf)) ?_
  refine L_nil ?_
  refine W_seq ?_
  refine W_heldN (fun w' => w'.heap[bxl]? = some (.cells #[ptr bl 0] 28 (0, 0)) ∧ Lg w' bl bd k u) 11 mixed rfl ?_
  have hS : (w.drew.heap[bxl]? = some (.cells #[ptr bl 0] 28 (0, 0)) ∧ Lg w.drew bl bd k u) := ⟨hO.box, hO.log⟩
  refine H_take 0 rfl (by kernel_rfl) (by kernel_rfl) (by kernel_rfl) rfl rfl hS (fun w' hq => x_load sc28 rfl (cell_at (v := ptr bl 0) hq.1 rfl)) ?_
  refine H_take 1 rfl (by kernel_rfl) (by kernel_rfl) (by kernel_rfl) rfl rfl hS (fun w' hq => x_load sc28 rfl (cell_at (v := ptr bl 0) hq.1 rfl)) ?_
  refine H_take 2 rfl (by kernel_rfl) (by kernel_rfl) (by kernel_rfl) rfl rfl hS (fun w' hq => x_nilCheck rfl) ?_
  refine H_take 3 rfl (by kernel_rfl) (by kernel_rfl) (by kernel_rfl) rfl rfl hS (fun w' hq => x_field fo_50_2 rfl) ?_
  refine H_take 4 rfl (by kernel_rfl) (by kernel_rfl) (by kernel_rfl) rfl rfl hS (fun w' hq => x_load sc3 rfl (cell_at (v := i64 (u : Nat)) hq.2 rfl)) ?_
  refine H_one 5 (by kernel_rfl) (S_call rfl rfl rfl (x_call ok21) (f21_read (h.chg0 (Chg.drew _ _)) hF hn (hO.log : Lg w.drew bl bd k u) hk hu) (fun v w1 ⟨hv, hc1⟩ => ?_))
  have hO1 := (hO.chg0 (Chg.drew _ _)).chg0 hc1
  have hS1 : (w1.heap[bxl]? = some (.cells #[ptr bl 0] 28 (0, 0)) ∧ Lg w1 bl bd k u) := ⟨hO1.box, hO1.log⟩
  refine ⟨hS1, ?_⟩
  have hc01 : Chg [] w w1 := (Chg.drew [] w).same hc1
  obtain ⟨s, r, rfl, hgood⟩ : ∃ s r, v = .tuple #[s, .bool r] ∧ match good (cur S D) n k u with
      | some x => r = true ∧ Bt w1 s x ∧ ∀ b, s.ownBlock = some b → base ≤ b ∧ Bk w1 b
      | none => r = false := by
    unfold ReadV at hv
    cases hr : recAt (cur S D) n u with
    | none =>
      rw [hr] at hv
      have hg : good (cur S D) n k u = none := by unfold good; rw [hr]
      rw [hg]
      exact ⟨_, _, hv, rfl⟩
    | some x =>
      rw [hr] at hv
      obtain ⟨s, hv, hB, hb⟩ := hv
      refine ⟨s, _, hv, ?_⟩
      by_cases e : sumB x k = wantAt (cur S D) u
      · have hg : good (cur S D) n k u = some x := by unfold good; rw [hr]; exact if_pos e
        rw [hg]
        refine ⟨decide_eq_true e, hB, fun b hb' => ⟨?_, (hb b hb').2⟩⟩
        have h1 : w.heap.size ≤ b := (hb b hb').1
        omega
      · have hg : good (cur S D) n k u = none := by unfold good; rw [hr]; exact if_neg e
        rw [hg]
        exact decide_eq_false e
  refine H_take 6 rfl (by kernel_rfl) (by kernel_rfl) (by kernel_rfl) rfl rfl hS1 (fun w' hq => x_move (v := .tuple #[s, .bool r]) rfl) ?_
  refine H_take 7 rfl (by kernel_rfl) (by kernel_rfl) (by kernel_rfl) rfl rfl hS1 (fun w' hq => x_extract rfl rfl) ?_
  refine H_take 8 rfl (by kernel_rfl) (by kernel_rfl) (by kernel_rfl) rfl rfl hS1 (fun w' hq => x_extract rfl rfl) ?_
  refine H_take 9 rfl (by kernel_rfl) (by kernel_rfl) (by kernel_rfl) rfl rfl hS1 (fun w' hq => x_assign (v := s) rfl) ?_
  refine H_take 10 rfl (by kernel_rfl) (by kernel_rfl) (by kernel_rfl) rfl rfl hS1 (fun w' hq => x_assign (v := .bool r) rfl) ?_
  refine H_done (by kernel_rfl) ?_
  refine W_seq ?_
  refine W_seq ?_
  refine W_region rfl ?_
  refine L_val rfl (x_move (v := .bool r) rfl) ?_
  refine L_nil ?_
  cases hg : good (cur S D) n k u with
  | none =>
    rw [hg] at hgood
    subst hgood
    refine W_false rfl ?_
    refine W_skip ?_
    refine W_seq ?_
    refine W_region rfl ?_
    refine L_val rfl (x_move (by conv => lhs; whnf)) ?_
    refine L_val rfl (x_assign (by conv => lhs; whnf)) ?_
    refine L_nil ?_
    refine W_ret ?_
    exact res1 rfl rfl ⟨Upto.of hc01 (by simp), rfl, hO1⟩
  | some x =>
    rw [hg] at hgood
    obtain ⟨rfl, hB, hsb⟩ := hgood
    refine W_true rfl ?_
    refine W_seq ?_
    obtain ⟨hlo, hbox, hlog, ⟨vout, vs, hout, hown, hrecs⟩, hlen⟩ := hO1
    have hvl := hrecs.len
    obtain ⟨sa, caps, rfl⟩ := hB.is
    have hbase1 : base ≤ w1.heap.size := by have := hc01.size; omega
    refine W_region rfl ?_
    refine L_val rfl (x_load sc22 rfl (cell_at (v := vout) hout rfl)) ?_
    refine L_val rfl (x_move (by conv => lhs; whnf)) ?_
    refine L_one e1_22 rfl (by conv => lhs; whnf) rfl (fun w2 hb2 hc2 hs2 => ?_)
    refine L_append e1_22 rfl rfl rfl (own_chg hown hc2 (by simp)) (Rw.one hb2) (fun v hv => by rw [List.mem_singleton.1 hv]; rfl) (by simp; omega) (by simp; omega) (by omega) (fun vout' w3 ha => ?_)
    have hbl1 := lt_of_at hlog
    have hbx1 := lt_of_at hbox
    have hbo1 := lt_of_at hout
    have hno : ∀ b' c T z, w2.heap[b']? = some (.cells c T z) → T ≠ 37 → b' ∉ vout.ownBlock.toList := fun b' c T z hb hT => own_ne hb hT (own_chg hown hc2 (by simp))
    have hout3 := ha.chg.at (hc2.at hout (by simp)) (hno _ _ _ _ (hc2.at hout (by simp)) (by decide))
    have hbox3 := ha.chg.at (hc2.at hbox (by simp)) (hno _ _ _ _ (hc2.at hbox (by simp)) (by decide))
    have hlog3 : Lg w3 bl bd k u := ha.chg.at (hc2.at hlog (by simp)) (hno _ _ _ _ (hc2.at hlog (by simp)) (by decide))
    have hrecs2 := (hrecs.add ⟨hB, hsb⟩).chg hc2 (by simp)
    have hrecs3 := hrecs2.chg ha.chg (fun b hb => by
      obtain ⟨c, T, z, hbb, hT⟩ := hb
      refine hno b c T z hbb ?_
      rcases hT with rfl | rfl <;> decide)
    have hl' : vout'.oneCell' = true := by
      rcases ha.own.2 with ⟨rfl, _⟩ | ⟨g, cap, cur, rfl, _⟩ <;> rfl
    refine L_store sz22 rfl rfl (v := vout') rfl hl' hout3 (by simp) (fun w4 hb4 hc4 => ?_)
    refine L_nil ?_
    have hbx_ne : bxl ≠ bxo := by intro e; subst e; rw [hbox3] at hout3; simp at hout3
    have hbl_ne : bl ≠ bxo := by intro e; subst e; have h1 : w3.heap[bl]? = _ := hlog3; rw [h1] at hout3; simp at hout3
    have hbl_ne2 : bxl ≠ bl := by intro e; subst e; have h1 : w3.heap[bxl]? = _ := hlog3; rw [h1] at hbox3; simp at hbox3
    have hbox4 : w4.heap[bxl]? = some (.cells #[ptr bl 0] 28 (0, 0)) := hc4.at hbox3 (by simpa using hbx_ne)
    have hlog4 : Lg w4 bl bd k u := hc4.at hlog3 (by simpa using hbl_ne)
    have hout4 : w4.heap[bxo]? = some (.cells #[vout'] 22 (0, 0)) := by rw [hb4]; rfl
    have hown4 : w4.ownsRow base 37 1 vout' (vs ++ [Value.slice sa x.length caps]).length (vs ++ [Value.slice sa x.length caps]) := own_chg ha.own hc4 (fun b hb hm => by
      have hm : b = bxo := by simpa using hm
      subst hm
      exact own_ne hout3 (by decide) ha.own (by simp [hb]))
    have hrecs4 := hrecs3.chg hc4 (fun b hb hm => by
      have hm : b = bxo := by simpa using hm
      subst hm
      exact hb.ne hout3 (by decide) rfl)
    have hs4 : Bt w4 (.slice sa x.length caps) x := ((hB.chg0 hc2).chg ha.chg (fun b hb hm => by
      obtain ⟨c, T, z, hbb, hT⟩ := ((hsb b hb).2.chg hc2 (by simp))
      refine hno b c T z hbb ?_ hm
      rcases hT with rfl | rfl <;> decide)).chg hc4 (fun b hb hm => by
      have hm : b = bxo := by simpa using hm
      subst hm
      have h2 := (hsb b hb).2.chg hc2 (by simp)
      exact h2.ne (hc2.at hout (by simp)) (by decide) rfl)
    have hup4 : Upto base w w4 := (((Upto.of hc01 (by simp)).trans (Upto.of hc2 (by simp))).trans (Upto.of ha.chg (fun k hk => own_new hown k hk))).trans (Upto.of hc4 (by simpa using hlo.2.2))
    have hxlen : x.length ≤ 549755813888 := by
      have := hB.lens
      have hq : good (cur S D) n k u = some x := hg
      unfold good recAt at hq
      split at hq
      · rename_i y hy
        split at hy
        · split at hq
          · simp at hq hy; subst hq; subst hy; simp; omega
          · cases hq
        · cases hy
      · cases hq
    refine W_heldN (fun w' => w'.heap[bxl]? = some (.cells #[ptr bl 0] 28 (0, 0))) 20 mixed rfl ?_
    have hS4 : w4.drew.heap[bxl]? = some (.cells #[ptr bl 0] 28 (0, 0)) := hbox4
    have hlog4d : Lg w4.drew bl bd k u := hlog4
    have hq22 : Calls Try.prog 22 #[.slice sa x.length caps] w4.drew (fun e w' => e = .returned (i64 (((x.length + 75) / 64 : Nat) : Int)) ∧ w' = w4.drew) := f22_sectors (hs4.chg0 (Chg.drew _ _)) hxlen
    refine H_take 0 rfl (by kernel_rfl) (by kernel_rfl) (by kernel_rfl) rfl rfl hS4 (fun w' hq => x_load sc28 rfl (cell_at (v := ptr bl 0) hq rfl)) ?_
    refine H_take 1 rfl (by kernel_rfl) (by kernel_rfl) (by kernel_rfl) rfl rfl hS4 (fun w' hq => x_load sc28 rfl (cell_at (v := ptr bl 0) hq rfl)) ?_
    refine H_take 2 rfl (by kernel_rfl) (by kernel_rfl) (by kernel_rfl) rfl rfl hS4 (fun w' hq => x_load sc28 rfl (cell_at (v := ptr bl 0) hq rfl)) ?_
    refine H_take 3 rfl (by kernel_rfl) (by kernel_rfl) (by kernel_rfl) rfl rfl hS4 (fun w' hq => x_nilCheck rfl) ?_
    refine H_take 4 rfl (by kernel_rfl) (by kernel_rfl) (by kernel_rfl) rfl rfl hS4 (fun w' hq => x_field fo_50_1 rfl) ?_
    refine H_take 7 rfl (by kernel_rfl) (by kernel_rfl) (by kernel_rfl) rfl rfl hS4 (fun w' hq => x_load sc28 rfl (cell_at (v := ptr bl 0) hq rfl)) ?_
    refine H_take 8 rfl (by kernel_rfl) (by kernel_rfl) (by kernel_rfl) rfl rfl hS4 (fun w' hq => x_nilCheck rfl) ?_
    refine H_take 9 rfl (by kernel_rfl) (by kernel_rfl) (by kernel_rfl) rfl rfl hS4 (fun w' hq => x_field fo_50_2 rfl) ?_
    refine H_take 11 rfl (by kernel_rfl) (by kernel_rfl) (by kernel_rfl) rfl rfl hS4 (fun w' hq => x_move (v := .slice sa x.length caps) rfl) ?_
    refine H_three 5 10 12 (by kernel_rfl) ?_ ?_ ?_
    · refine S_val rfl rfl rfl (x_load sc3 rfl (cell_at (v := i64 (k : Nat)) hlog4d rfl)) hS4 ?_
      refine H_take 6 rfl (by kernel_rfl) (by kernel_rfl) (by kernel_rfl) rfl rfl hS4 (fun w' hq => x_add rfl rfl (wr64 (c := ((k + 1 : Nat) : Int)) (by omega) (by omega) (by omega))) ?_
      refine H_two 10 12 (by kernel_rfl) ?_ ?_
      · refine S_val rfl rfl rfl (x_load sc3 rfl (cell_at (v := i64 (u : Nat)) hlog4d rfl)) hS4 ?_
        refine H_one 12 (by kernel_rfl) (S_enterQ rfl rfl rfl (x_call ok22) hq22 hS4 ?_)
        refine H_take 13 rfl (by kernel_rfl) (by kernel_rfl) (by kernel_rfl) rfl rfl hS4 (fun w' hq => x_add rfl rfl (wr64 (c := ((u + (x.length + 75) / 64 : Nat) : Int)) (by omega) (by omega) (by omega))) ?_
        refine H_take 14 rfl (by kernel_rfl) (by kernel_rfl) (by kernel_rfl) rfl rfl hS4 (fun w' hq => x_nilCheck rfl) ?_
        refine H_take 15 rfl (by kernel_rfl) (by kernel_rfl) (by kernel_rfl) rfl rfl hS4 (fun w' hq => x_field fo_50_1 rfl) ?_
        refine H_one 16 (by kernel_rfl) (S_store rfl sz3 rfl rfl (v := i64 ((k + 1 : Nat) : Int)) rfl rfl hlog4d (by simp) (fun w5 hb5 hc5 => ?_))
        have hS5 : w5.heap[bxl]? = some (.cells #[ptr bl 0] 28 (0, 0)) := hc5.at hS4 (by simpa using hbl_ne2)
        refine ⟨hS5, ?_⟩
        refine H_take 17 rfl (by kernel_rfl) (by kernel_rfl) (by kernel_rfl) rfl rfl hS5 (fun w' hq => x_nilCheck rfl) ?_
        refine H_take 18 rfl (by kernel_rfl) (by kernel_rfl) (by kernel_rfl) rfl rfl hS5 (fun w' hq => x_field fo_50_2 rfl) ?_
        refine H_one 19 (by kernel_rfl) (S_store rfl sz3 rfl rfl (v := i64 ((u + (x.length + 75) / 64 : Nat) : Int)) rfl rfl hb5 (by simp) (fun w6 hb6 hc6 => ?_))
        have hS6 : w6.heap[bxl]? = some (.cells #[ptr bl 0] 28 (0, 0)) := hc6.at hS5 (by simpa using hbl_ne2)
        refine ⟨hS6, ?_⟩
        refine H_done (by kernel_rfl) ?_
        refine W_seq ?_
        refine W_region rfl ?_
        refine L_val rfl (x_move (by conv => lhs; whnf)) ?_
        refine L_val rfl (x_assign (by conv => lhs; whnf)) ?_
        refine L_nil ?_
        refine W_ret ?_
        exact res1 (v := .bool true) rfl rfl (fin20 ⟨hlo, hbox4, hlog4, ⟨vout', _, hout4, hown4, hrecs4⟩⟩ hup4 (by simp [hlen]) hb5 hc5 hb6 hc6)
      · refine S_enterQ rfl rfl rfl (x_call ok22) hq22 hS4 ?_
        refine H_one 10 (by kernel_rfl) (S_val rfl rfl rfl (x_load sc3 rfl (cell_at (v := i64 (u : Nat)) hlog4d rfl)) hS4 ?_)
        refine H_take 13 rfl (by kernel_rfl) (by kernel_rfl) (by kernel_rfl) rfl rfl hS4 (fun w' hq => x_add rfl rfl (wr64 (c := ((u + (x.length + 75) / 64 : Nat) : Int)) (by omega) (by omega) (by omega))) ?_
        refine H_take 14 rfl (by kernel_rfl) (by kernel_rfl) (by kernel_rfl) rfl rfl hS4 (fun w' hq => x_nilCheck rfl) ?_
        refine H_take 15 rfl (by kernel_rfl) (by kernel_rfl) (by kernel_rfl) rfl rfl hS4 (fun w' hq => x_field fo_50_1 rfl) ?_
        refine H_one 16 (by kernel_rfl) (S_store rfl sz3 rfl rfl (v := i64 ((k + 1 : Nat) : Int)) rfl rfl hlog4d (by simp) (fun w5 hb5 hc5 => ?_))
        have hS5 : w5.heap[bxl]? = some (.cells #[ptr bl 0] 28 (0, 0)) := hc5.at hS4 (by simpa using hbl_ne2)
        refine ⟨hS5, ?_⟩
        refine H_take 17 rfl (by kernel_rfl) (by kernel_rfl) (by kernel_rfl) rfl rfl hS5 (fun w' hq => x_nilCheck rfl) ?_
        refine H_take 18 rfl (by kernel_rfl) (by kernel_rfl) (by kernel_rfl) rfl rfl hS5 (fun w' hq => x_field fo_50_2 rfl) ?_
        refine H_one 19 (by kernel_rfl) (S_store rfl sz3 rfl rfl (v := i64 ((u + (x.length + 75) / 64 : Nat) : Int)) rfl rfl hb5 (by simp) (fun w6 hb6 hc6 => ?_))
        have hS6 : w6.heap[bxl]? = some (.cells #[ptr bl 0] 28 (0, 0)) := hc6.at hS5 (by simpa using hbl_ne2)
        refine ⟨hS6, ?_⟩
        refine H_done (by kernel_rfl) ?_
        refine W_seq ?_
        refine W_region rfl ?_
        refine L_val rfl (x_move (by conv => lhs; whnf)) ?_
        refine L_val rfl (x_assign (by conv => lhs; whnf)) ?_
        refine L_nil ?_
        refine W_ret ?_
        exact res1 (v := .bool true) rfl rfl (fin20 ⟨hlo, hbox4, hlog4, ⟨vout', _, hout4, hown4, hrecs4⟩⟩ hup4 (by simp [hlen]) hb5 hc5 hb6 hc6)
    · refine S_val rfl rfl rfl (x_load sc3 rfl (cell_at (v := i64 (u : Nat)) hlog4d rfl)) hS4 ?_
      refine H_two 5 12 (by kernel_rfl) ?_ ?_
      · refine S_val rfl rfl rfl (x_load sc3 rfl (cell_at (v := i64 (k : Nat)) hlog4d rfl)) hS4 ?_
        refine H_take 6 rfl (by kernel_rfl) (by kernel_rfl) (by kernel_rfl) rfl rfl hS4 (fun w' hq => x_add rfl rfl (wr64 (c := ((k + 1 : Nat) : Int)) (by omega) (by omega) (by omega))) ?_
        refine H_one 12 (by kernel_rfl) (S_enterQ rfl rfl rfl (x_call ok22) hq22 hS4 ?_)
        refine H_take 13 rfl (by kernel_rfl) (by kernel_rfl) (by kernel_rfl) rfl rfl hS4 (fun w' hq => x_add rfl rfl (wr64 (c := ((u + (x.length + 75) / 64 : Nat) : Int)) (by omega) (by omega) (by omega))) ?_
        refine H_take 14 rfl (by kernel_rfl) (by kernel_rfl) (by kernel_rfl) rfl rfl hS4 (fun w' hq => x_nilCheck rfl) ?_
        refine H_take 15 rfl (by kernel_rfl) (by kernel_rfl) (by kernel_rfl) rfl rfl hS4 (fun w' hq => x_field fo_50_1 rfl) ?_
        refine H_one 16 (by kernel_rfl) (S_store rfl sz3 rfl rfl (v := i64 ((k + 1 : Nat) : Int)) rfl rfl hlog4d (by simp) (fun w5 hb5 hc5 => ?_))
        have hS5 : w5.heap[bxl]? = some (.cells #[ptr bl 0] 28 (0, 0)) := hc5.at hS4 (by simpa using hbl_ne2)
        refine ⟨hS5, ?_⟩
        refine H_take 17 rfl (by kernel_rfl) (by kernel_rfl) (by kernel_rfl) rfl rfl hS5 (fun w' hq => x_nilCheck rfl) ?_
        refine H_take 18 rfl (by kernel_rfl) (by kernel_rfl) (by kernel_rfl) rfl rfl hS5 (fun w' hq => x_field fo_50_2 rfl) ?_
        refine H_one 19 (by kernel_rfl) (S_store rfl sz3 rfl rfl (v := i64 ((u + (x.length + 75) / 64 : Nat) : Int)) rfl rfl hb5 (by simp) (fun w6 hb6 hc6 => ?_))
        have hS6 : w6.heap[bxl]? = some (.cells #[ptr bl 0] 28 (0, 0)) := hc6.at hS5 (by simpa using hbl_ne2)
        refine ⟨hS6, ?_⟩
        refine H_done (by kernel_rfl) ?_
        refine W_seq ?_
        refine W_region rfl ?_
        refine L_val rfl (x_move (by conv => lhs; whnf)) ?_
        refine L_val rfl (x_assign (by conv => lhs; whnf)) ?_
        refine L_nil ?_
        refine W_ret ?_
        exact res1 (v := .bool true) rfl rfl (fin20 ⟨hlo, hbox4, hlog4, ⟨vout', _, hout4, hown4, hrecs4⟩⟩ hup4 (by simp [hlen]) hb5 hc5 hb6 hc6)
      · refine S_enterQ rfl rfl rfl (x_call ok22) hq22 hS4 ?_
        refine H_take 13 rfl (by kernel_rfl) (by kernel_rfl) (by kernel_rfl) rfl rfl hS4 (fun w' hq => x_add rfl rfl (wr64 (c := ((u + (x.length + 75) / 64 : Nat) : Int)) (by omega) (by omega) (by omega))) ?_
        refine H_one 5 (by kernel_rfl) (S_val rfl rfl rfl (x_load sc3 rfl (cell_at (v := i64 (k : Nat)) hlog4d rfl)) hS4 ?_)
        refine H_take 6 rfl (by kernel_rfl) (by kernel_rfl) (by kernel_rfl) rfl rfl hS4 (fun w' hq => x_add rfl rfl (wr64 (c := ((k + 1 : Nat) : Int)) (by omega) (by omega) (by omega))) ?_
        refine H_take 14 rfl (by kernel_rfl) (by kernel_rfl) (by kernel_rfl) rfl rfl hS4 (fun w' hq => x_nilCheck rfl) ?_
        refine H_take 15 rfl (by kernel_rfl) (by kernel_rfl) (by kernel_rfl) rfl rfl hS4 (fun w' hq => x_field fo_50_1 rfl) ?_
        refine H_one 16 (by kernel_rfl) (S_store rfl sz3 rfl rfl (v := i64 ((k + 1 : Nat) : Int)) rfl rfl hlog4d (by simp) (fun w5 hb5 hc5 => ?_))
        have hS5 : w5.heap[bxl]? = some (.cells #[ptr bl 0] 28 (0, 0)) := hc5.at hS4 (by simpa using hbl_ne2)
        refine ⟨hS5, ?_⟩
        refine H_take 17 rfl (by kernel_rfl) (by kernel_rfl) (by kernel_rfl) rfl rfl hS5 (fun w' hq => x_nilCheck rfl) ?_
        refine H_take 18 rfl (by kernel_rfl) (by kernel_rfl) (by kernel_rfl) rfl rfl hS5 (fun w' hq => x_field fo_50_2 rfl) ?_
        refine H_one 19 (by kernel_rfl) (S_store rfl sz3 rfl rfl (v := i64 ((u + (x.length + 75) / 64 : Nat) : Int)) rfl rfl hb5 (by simp) (fun w6 hb6 hc6 => ?_))
        have hS6 : w6.heap[bxl]? = some (.cells #[ptr bl 0] 28 (0, 0)) := hc6.at hS5 (by simpa using hbl_ne2)
        refine ⟨hS6, ?_⟩
        refine H_done (by kernel_rfl) ?_
        refine W_seq ?_
        refine W_region rfl ?_
        refine L_val rfl (x_move (by conv => lhs; whnf)) ?_
        refine L_val rfl (x_assign (by conv => lhs; whnf)) ?_
        refine L_nil ?_
        refine W_ret ?_
        exact res1 (v := .bool true) rfl rfl (fin20 ⟨hlo, hbox4, hlog4, ⟨vout', _, hout4, hown4, hrecs4⟩⟩ hup4 (by simp [hlen]) hb5 hc5 hb6 hc6)
    · refine S_enterQ rfl rfl rfl (x_call ok22) hq22 hS4 ?_
      refine H_two 5 10 (by kernel_rfl) ?_ ?_
      · refine S_val rfl rfl rfl (x_load sc3 rfl (cell_at (v := i64 (k : Nat)) hlog4d rfl)) hS4 ?_
        refine H_take 6 rfl (by kernel_rfl) (by kernel_rfl) (by kernel_rfl) rfl rfl hS4 (fun w' hq => x_add rfl rfl (wr64 (c := ((k + 1 : Nat) : Int)) (by omega) (by omega) (by omega))) ?_
        refine H_one 10 (by kernel_rfl) (S_val rfl rfl rfl (x_load sc3 rfl (cell_at (v := i64 (u : Nat)) hlog4d rfl)) hS4 ?_)
        refine H_take 13 rfl (by kernel_rfl) (by kernel_rfl) (by kernel_rfl) rfl rfl hS4 (fun w' hq => x_add rfl rfl (wr64 (c := ((u + (x.length + 75) / 64 : Nat) : Int)) (by omega) (by omega) (by omega))) ?_
        refine H_take 14 rfl (by kernel_rfl) (by kernel_rfl) (by kernel_rfl) rfl rfl hS4 (fun w' hq => x_nilCheck rfl) ?_
        refine H_take 15 rfl (by kernel_rfl) (by kernel_rfl) (by kernel_rfl) rfl rfl hS4 (fun w' hq => x_field fo_50_1 rfl) ?_
        refine H_one 16 (by kernel_rfl) (S_store rfl sz3 rfl rfl (v := i64 ((k + 1 : Nat) : Int)) rfl rfl hlog4d (by simp) (fun w5 hb5 hc5 => ?_))
        have hS5 : w5.heap[bxl]? = some (.cells #[ptr bl 0] 28 (0, 0)) := hc5.at hS4 (by simpa using hbl_ne2)
        refine ⟨hS5, ?_⟩
        refine H_take 17 rfl (by kernel_rfl) (by kernel_rfl) (by kernel_rfl) rfl rfl hS5 (fun w' hq => x_nilCheck rfl) ?_
        refine H_take 18 rfl (by kernel_rfl) (by kernel_rfl) (by kernel_rfl) rfl rfl hS5 (fun w' hq => x_field fo_50_2 rfl) ?_
        refine H_one 19 (by kernel_rfl) (S_store rfl sz3 rfl rfl (v := i64 ((u + (x.length + 75) / 64 : Nat) : Int)) rfl rfl hb5 (by simp) (fun w6 hb6 hc6 => ?_))
        have hS6 : w6.heap[bxl]? = some (.cells #[ptr bl 0] 28 (0, 0)) := hc6.at hS5 (by simpa using hbl_ne2)
        refine ⟨hS6, ?_⟩
        refine H_done (by kernel_rfl) ?_
        refine W_seq ?_
        refine W_region rfl ?_
        refine L_val rfl (x_move (by conv => lhs; whnf)) ?_
        refine L_val rfl (x_assign (by conv => lhs; whnf)) ?_
        refine L_nil ?_
        refine W_ret ?_
        exact res1 (v := .bool true) rfl rfl (fin20 ⟨hlo, hbox4, hlog4, ⟨vout', _, hout4, hown4, hrecs4⟩⟩ hup4 (by simp [hlen]) hb5 hc5 hb6 hc6)
      · refine S_val rfl rfl rfl (x_load sc3 rfl (cell_at (v := i64 (u : Nat)) hlog4d rfl)) hS4 ?_
        refine H_take 13 rfl (by kernel_rfl) (by kernel_rfl) (by kernel_rfl) rfl rfl hS4 (fun w' hq => x_add rfl rfl (wr64 (c := ((u + (x.length + 75) / 64 : Nat) : Int)) (by omega) (by omega) (by omega))) ?_
        refine H_one 5 (by kernel_rfl) (S_val rfl rfl rfl (x_load sc3 rfl (cell_at (v := i64 (k : Nat)) hlog4d rfl)) hS4 ?_)
        refine H_take 6 rfl (by kernel_rfl) (by kernel_rfl) (by kernel_rfl) rfl rfl hS4 (fun w' hq => x_add rfl rfl (wr64 (c := ((k + 1 : Nat) : Int)) (by omega) (by omega) (by omega))) ?_
        refine H_take 14 rfl (by kernel_rfl) (by kernel_rfl) (by kernel_rfl) rfl rfl hS4 (fun w' hq => x_nilCheck rfl) ?_
        refine H_take 15 rfl (by kernel_rfl) (by kernel_rfl) (by kernel_rfl) rfl rfl hS4 (fun w' hq => x_field fo_50_1 rfl) ?_
        refine H_one 16 (by kernel_rfl) (S_store rfl sz3 rfl rfl (v := i64 ((k + 1 : Nat) : Int)) rfl rfl hlog4d (by simp) (fun w5 hb5 hc5 => ?_))
        have hS5 : w5.heap[bxl]? = some (.cells #[ptr bl 0] 28 (0, 0)) := hc5.at hS4 (by simpa using hbl_ne2)
        refine ⟨hS5, ?_⟩
        refine H_take 17 rfl (by kernel_rfl) (by kernel_rfl) (by kernel_rfl) rfl rfl hS5 (fun w' hq => x_nilCheck rfl) ?_
        refine H_take 18 rfl (by kernel_rfl) (by kernel_rfl) (by kernel_rfl) rfl rfl hS5 (fun w' hq => x_field fo_50_2 rfl) ?_
        refine H_one 19 (by kernel_rfl) (S_store rfl sz3 rfl rfl (v := i64 ((u + (x.length + 75) / 64 : Nat) : Int)) rfl rfl hb5 (by simp) (fun w6 hb6 hc6 => ?_))
        have hS6 : w6.heap[bxl]? = some (.cells #[ptr bl 0] 28 (0, 0)) := hc6.at hS5 (by simpa using hbl_ne2)
        refine ⟨hS6, ?_⟩
        refine H_done (by kernel_rfl) ?_
        refine W_seq ?_
        refine W_region rfl ?_
        refine L_val rfl (x_move (by conv => lhs; whnf)) ?_
        refine L_val rfl (x_assign (by conv => lhs; whnf)) ?_
        refine L_nil ?_
        refine W_ret ?_
        exact res1 (v := .bool true) rfl rfl (fin20 ⟨hlo, hbox4, hlog4, ⟨vout', _, hout4, hown4, hrecs4⟩⟩ hup4 (by simp [hlen]) hb5 hc5 hb6 hc6)
end
end Go.Proofs.Ytinoebjhcmeppaa
