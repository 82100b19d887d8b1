/- The walks of slices.Chunk over bytes: the function, and the function that it hands back, as a range over a function wants it. -/
import Derived.Test.YtinoebjhcmeppaaFen
import Derived.Test.YtinoebjhcmeppaaWalE
namespace Go.Proofs.Ytinoebjhcmeppaa
open E Sha
set_option maxRecDepth 100000
set_option maxHeartbeats 4000000

theorem x_slice3 {P : Program} {f : Fr} {w : World} {dst : Option Tmp} {ps : String} {af : Array Edge} {gd : Option (Nat × Bool)} {ty : TypeId} {t : TypeId} {e s : Nat} {x lo hi mx : Operand} {a : Option Addr} {len cap l h m : Nat} {k k' k'' : IntKind} (ht : elemOfT P t = some (e, s)) (hx : ev f x = .slice a len cap)
    (hl : ev f lo = .int k (l : Int)) (hh : ev f hi = .int k' (h : Int)) (hm : ev f mx = .int k'' (m : Int)) (h1 : l ≤ h) (h2 : h ≤ m) (h3 : m ≤ cap) :
    (execOp (ev f) ⟨dst, .slice t x (some lo) (some hi) (some mx), ty, ps, af, gd⟩).run P w = .ok (.value (.slice (if m = l then a else a.map (·.add (l * s))) (h - l) (m - l))) w := by
  obtain ⟨hu, q, hq, hs⟩ := elemOfT_spec ht
  simp [execOp, Instr.sliceAt, Instr.slice, Instr.sliceBounds, Instr.sliceBound, hx, hl, hh, hm, asIntOf, run_underlying hu, run_sizeOf_of hq, hs, h1, h2, h3]

/-- The piece of number j. -/
def pieceV (a : Option Addr) (L j : Nat) : Value := .slice (a.map (·.add (64 * j * 1))) (min 64 (L - 64 * j)) (min 64 (L - 64 * j))
def KpC (b2 b3 : Nat) (W W' : World) : Prop := W'.heap[b2]? = W.heap[b2]? ∧ W'.heap[b3]? = W.heap[b3]?

theorem f52_seq {b2 b3 L cap : Nat} {a : Option Addr} {w0 : World} (h2 : w0.heap[b2]? = some (.cells #[.slice a L cap] 37 (0, 0))) (h3 : w0.heap[b3]? = some (.cells #[i64 64] 3 (0, 0))) (hL : L ≤ cap) (hL2 : L ≤ 549755813888) :
    SeqStopsK (FW none) 6 Try.prog 52 #[ptr b2 0, ptr b3 0] (fun j => #[pieceV a L j]) (KpC b2 b3) (fun xs => xs = List.range ((L + 63) / 64)) (fun _ => True) ((L + 63) / 64) w0 := by
  intro l J Jx W hb hJ hJx hround h0
  have hlt2 := lt_of_at h2
  have hlt3 := lt_of_at h3
  have hW2 : W.heap[b2]? = some (.cells #[.slice a L cap] 37 (0, 0)) := by rw [hb.block b2 hlt2]; exact h2
  have hW3 : W.heap[b3]? = some (.cells #[i64 64] 3 (0, 0)) := by rw [hb.block b3 hlt3]; exact h3
  have hJd : ∀ s X, J s X → J s X.drew := fun s X hs => hJ s X X.drew none hs ⟨rfl, rfl, rfl, Nat.le_refl _, fun _ _ _ => rfl⟩ (fun r e => by cases e)
  have key : CallsIn (FW none) 7 Try.prog 52 #[.func (.yield l) #[] #[], ptr b2 0, ptr b3 0] W (Rv fun _ W' => (J (List.range ((L + 63) / 64)) W') ∨ (∃ pre, Jx pre W')) := by
    refine callsIn_Wf (args := [.func (.yield l) #[] #[], ptr b2 0, ptr b3 0]) Try.func52 rfl Try.ntmps52 rfl ?_
    refine Wf_seq ?_
    refine Wf_region rfl rfl ?_
    refine L_val rfl (x_assign (by conv => lhs; whnf)) ?_
    refine L_nil ?_
    refine Wf_block ?_
    refine Wf_loop (fun m f W1 => ∃ j, j ≤ (L + 63) / 64 ∧ m = (L + 63) / 64 - j ∧ Frm f [(0, .func (.yield l) #[] #[]), (1, ptr b2 0), (2, ptr b3 0), (4, i64 ((64 * j : Nat) : Int))] ∧
        W1.heap[b2]? = some (.cells #[.slice a L cap] 37 (0, 0)) ∧ W1.heap[b3]? = some (.cells #[i64 64] 3 (0, 0)) ∧ J (List.range j) W1) ((L + 63) / 64)
      ⟨0, by omega, by omega, ⟨rfl, rfl, rfl, rfl, trivial⟩, hW2, hW3, h0⟩ (fun m f W1 hI => ?_)
    obtain ⟨j, hj, rfl, hF, hb2, hb3, hJ1⟩ := hI
    obtain ⟨g, rfl⟩ := hF.eta
    refine Wf_seq ?_
    refine Wf_seq ?_
    refine Wf_region rfl rfl ?_
    refine L_val rfl (x_move (by conv => lhs; whnf)) ?_
    refine L_val rfl (x_load sc37 rfl (cell_at (v := .slice a L cap) hb2 rfl)) ?_
    refine L_val rfl (x_len el37 rfl) ?_
    refine L_val rfl (x_lss rfl rfl rfl) ?_
    refine L_nil ?_
    by_cases hcond : 64 * j < L
    · refine Wf_true (congrArg Value.bool (decide_eq_true (by omega))) ?_
      refine Wf_skip ?_
      refine Wf_seq ?_
      refine Wf_block ?_
      refine Wf_seq ?_
      refine Wf_still mixed (by kernel_rfl) rfl rfl ?_
      refine L_val rfl (x_load sc3 rfl (cell_at (v := i64 64) hb3 rfl)) ?_
      refine L_val rfl (x_load sc37 rfl (cell_at (v := .slice a L cap) hb2 rfl)) ?_
      refine L_val rfl (x_move (by conv => lhs; whnf)) ?_
      refine L_val rfl (x_sliceL el37 (l := 64 * j) rfl rfl (by omega)) ?_
      refine L_val rfl (x_len el37 rfl) ?_
      refine L_val rfl (x_min rfl rfl) ?_
      have hmin : (if ((L - 64 * j : Nat) : Int) < 64 then ((L - 64 * j : Nat) : Int) else 64) = ((min 64 (L - 64 * j) : Nat) : Int) := by
        by_cases e : L - 64 * j < 64
        · rw [if_pos (by omega)]; omega
        · rw [if_neg (by omega)]; omega
      rw [hmin]
      refine L_val rfl (x_assign (by conv => lhs; whnf)) ?_
      refine L_nil ?_
      refine Wf_seq ?_
      refine Wf_yield 10 rfl rfl rfl ?_
      refine L_val rfl (x_move (by conv => lhs; whnf)) ?_
      refine L_val rfl (x_load sc37 rfl (cell_at (v := .slice a L cap) hb2 rfl)) ?_
      refine L_val rfl (x_move (by conv => lhs; whnf)) ?_
      refine L_val rfl (x_move (by conv => lhs; whnf)) ?_
      refine L_val rfl (x_move (by conv => lhs; whnf)) ?_
      refine L_val rfl (x_add rfl rfl (wr64 (c := ((64 * j + min 64 (L - 64 * j) : Nat) : Int)) (by omega) (by omega) (by omega))) ?_
      refine L_val rfl (x_move (by conv => lhs; whnf)) ?_
      refine L_val rfl (x_move (by conv => lhs; whnf)) ?_
      refine L_val rfl (x_add rfl rfl (wr64 (c := ((64 * j + min 64 (L - 64 * j) : Nat) : Int)) (by omega) (by omega) (by omega))) ?_
      refine L_val rfl (x_slice3 el37 (l := 64 * j) (h := 64 * j + min 64 (L - 64 * j)) (m := 64 * j + min 64 (L - 64 * j)) rfl rfl rfl rfl (by omega) (by omega) (by omega)) ?_
      have hv : Value.slice (if 64 * j + min 64 (L - 64 * j) = 64 * j then a else a.map (·.add (64 * j * 1))) (64 * j + min 64 (L - 64 * j) - 64 * j) (64 * j + min 64 (L - 64 * j) - 64 * j) = pieceV a L j := by
        rw [if_neg (by omega), Nat.add_sub_cancel_left]; rfl
      rw [hv]
      refine L_nil ?_
      refine ⟨l, pieceV a L j, _, rfl, rfl, yieldAt_m (hround (List.range j) j W1.drew (hJd _ _ hJ1) (by simp; omega)), fun e w' he => ?_⟩
      rcases he with ⟨rfl, hJ2, hk⟩ | ⟨rfl, hJ2⟩
      · refine ⟨_, rfl, ?_⟩
        refine L_val rfl (x_not rfl) ?_
        refine L_nil ?_
        refine Wf_false rfl ?_
        refine Wf_skip ?_
        have hb2' : w'.heap[b2]? = some (.cells #[.slice a L cap] 37 (0, 0)) := by rw [hk.1]; exact hb2
        have hb3' : w'.heap[b3]? = some (.cells #[i64 64] 3 (0, 0)) := by rw [hk.2]; exact hb3
        refine Wf_region rfl rfl ?_
        refine L_val rfl (x_move (by conv => lhs; whnf)) ?_
        refine L_val rfl (x_load sc3 rfl (cell_at (v := i64 64) hb3' rfl)) ?_
        refine L_val rfl (x_add rfl rfl (wr64 (c := ((64 * (j + 1) : Nat) : Int)) (by omega) (by omega) (by omega))) ?_
        refine L_val rfl (x_assign (by conv => lhs; whnf)) ?_
        refine L_nil ?_
        exact ⟨(L + 63) / 64 - (j + 1), by omega, j + 1, by omega, rfl, ⟨rfl, rfl, rfl, rfl, trivial⟩, hb2', hb3', by rw [List.range_succ]; exact hJ2⟩
      · refine ⟨_, rfl, ?_⟩
        refine L_val rfl (x_not rfl) ?_
        refine L_nil ?_
        refine Wf_true rfl ?_
        refine Wf_ret ?_
        exact res0 rfl (.inr ⟨_, hJ2⟩)
    · refine Wf_false (congrArg Value.bool (decide_eq_false (by omega))) ?_
      refine Wf_exit ?_
      simp only [Nat.beq_refl, cond_true]
      have hjK : j = (L + 63) / 64 := by omega
      subst hjK
      exact res0 rfl (.inl hJ1)
  refine callsIn_m ((key.mono (fun e w' ⟨v, he, hq⟩ => ?_)) : CallsIn (FW none) 7 Try.prog 52 (#[.func (.yield l) #[] #[]] ++ #[ptr b2 0, ptr b3 0]) W _)
  refine ⟨⟨v, he⟩, ?_⟩
  rcases hq with hq | ⟨pre, hq⟩
  · exact .inl ⟨_, rfl, hq⟩
  · exact .inr ⟨pre, trivial, hq⟩

theorem f36_chunk {w : World} {a : Option Addr} {L cap : Nat} :
    Calls Try.prog 36 #[.slice a L cap, i64 64] w (Rv fun v w' => ∃ b2 b3, v = .func (.func 52) #[] #[ptr b2 0, ptr b3 0] ∧ w.heap.size ≤ b2 ∧ w.heap.size ≤ b3 ∧ w'.heap[b2]? = some (.cells #[.slice a L cap] 37 (0, 0)) ∧ w'.heap[b3]? = some (.cells #[i64 64] 3 (0, 0)) ∧ Chg [] w w') := by
  refine calls_W (args := [.slice a L cap, i64 64]) Try.func36 rfl Try.ntmps36 rfl ?_
  refine W_seq ?_
  refine W_region rfl ?_
  refine L_box rfl (by conv => lhs; whnf) (fun w1 hb1 hc1 hs1 => ?_)
  refine L_box rfl (by conv => lhs; whnf) (fun w2 hb2 hc2 hs2 => ?_)
  refine L_val rfl (x_assign (by conv => lhs; whnf)) ?_
  refine L_nil ?_
  refine W_seq ?_
  refine W_seq ?_
  refine W_region rfl ?_
  refine L_val rfl (x_load sc3 rfl (cell_at (v := i64 64) hb2 rfl)) ?_
  refine L_val rfl (x_lss (r := false) rfl rfl (by decide)) ?_
  refine L_nil ?_
  refine W_false rfl ?_
  refine W_skip ?_
  refine W_seq ?_
  refine W_region rfl ?_
  refine L_val rfl (x_mkf (cs := #[ptr w.heap.size 0, ptr w1.heap.size 0]) rfl) ?_
  refine L_val rfl (x_assign (by conv => lhs; whnf)) ?_
  refine L_nil ?_
  refine W_ret ?_
  exact res1 rfl rfl ⟨_, _, rfl, Nat.le_refl _, by omega, hc2.at hb1 (by simp), hb2, hc1.same hc2⟩
end Go.Proofs.Ytinoebjhcmeppaa
