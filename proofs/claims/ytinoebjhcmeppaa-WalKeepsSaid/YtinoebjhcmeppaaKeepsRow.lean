/- WalKeeps holds: for every two slices of slices of bytes, every slice of whole numbers and every three whole numbers the law returns true and leaves its arguments as they were. Conditions: none beyond the given statement's. (The frame round the walk follows the kit's proof-skeleton.mjs.) -/
import Derived.Test.YtinoebjhcmeppaaKeeps
import Derived.Test.YtinoebjhcmeppaaRows
import Derived.ProofKit
import Derived.OpenShut
import Derived.ShutString
import Derived.ChangeOld
import Derived.Below
namespace Go.Proofs.Ytinoebjhcmeppaa.walKeeps
open Go.ChangeShapes Go.WideShapes Go.ChangeAt Go.RowKit

theorem own : ownKnob Try.prog.godebug = none := by kernel_rfl
theorem laidOut : laidOutB Try.prog = true := by kernel_rfl
theorem cells37 : Try.prog.cellsOf 37 = 1 := by kernel_rfl
theorem cells5 : Try.prog.cellsOf 5 = 1 := by kernel_rfl
theorem cells3 : Try.prog.cellsOf 3 = 1 := by kernel_rfl

theorem below_of_chg {w w' : World} (h : E.Chg [] w w') : Below w.heap.size w w' := ⟨h.os, h.tape, h.output, h.size, fun k hk => h.block k hk (by simp)⟩
theorem plain_of_cell {w : World} {x : Addr} {v : Value} (h : w.cell? (x.add 0) = some v) : ∃ b o, x = ⟨b, o, none⟩ := by
  obtain ⟨b, o, sp⟩ := x
  cases sp with
  | none => exact ⟨b, o, rfl⟩
  | some s =>
    simp only [Addr.add, if_true, World.cell?] at h
    split at h <;> simp at h
/-- Cells that lie one behind the other are a row. -/
theorem rw_of_cells {w : World} {x : Addr} {len cap : Nat} {vs : List Value} (hl : vs.length = len) (h1 : len ≤ cap) (h2 : cap ≤ maxLen) (hc : ∀ i u, vs[i]? = some u → w.cell? (x.add i) = some u) : E.Rw w (.slice (some x) len cap) vs := by
  refine ⟨some x, cap, by rw [hl], by omega, h2, fun j u hu => ?_⟩
  have hj := (List.getElem?_eq_some_iff.1 hu).1
  obtain ⟨b, o, rfl⟩ := plain_of_cell (hc 0 vs[0] (by simp [show 0 < vs.length by omega]))
  refine ⟨b, o, rfl, ?_⟩
  have := hc j u hu
  rw [E.addr_add] at this
  exact this
theorem rw_of_nums {w : World} {x : Addr} {len cap : Nat} {zs : List Int} {k : IntKind} (hz : len ≤ zs.length) (h1 : len ≤ cap) (h2 : cap ≤ maxLen) (hc : ∀ i, i < zs.length → w.cell? (x.add i) = some (.int k (zs.getD i 0))) : E.Rw w (.slice (some x) len cap) ((zs.take len).map (Value.int k)) := by
  refine rw_of_cells (by simp; omega) h1 h2 (fun i u hu => ?_)
  have hi := (List.getElem?_eq_some_iff.1 hu).1
  simp only [List.length_map, List.length_take] at hi
  have hiz : i < zs.length := by omega
  rw [hc i hiz]
  simp only [List.map_take, List.getElem?_take, show i < len by omega, if_true, List.getElem?_map, List.getElem?_eq_getElem hiz, Option.map_some, Option.some.injEq] at hu
  rw [← hu]
  simp [List.getD_eq_getElem?_getD, List.getElem?_eq_getElem hiz]
theorem rows_of {w : World} {x : Addr} : ∀ n, (∀ i, i < n → ∃ u z, w.cell? (x.add i) = some u ∧ E.Bt w u z ∧ InB z) →
    ∃ vs xs, vs.length = n ∧ (∀ i u, vs[i]? = some u → w.cell? (x.add i) = some u) ∧ Rs w vs xs ∧ ∀ z ∈ xs, InB z
  | 0, _ => ⟨[], [], rfl, by simp, trivial, by simp⟩
  | n + 1, h => by
    obtain ⟨vs, xs, h1, h2, h3, h4⟩ := rows_of n (fun i hi => h i (by omega))
    obtain ⟨u, z, hc, hb, hz⟩ := h n (by omega)
    refine ⟨vs ++ [u], xs ++ [z], by simp [h1], fun i v hv => ?_, h3.add hb, fun y hy => ?_⟩
    · by_cases e : i < n
      · rw [List.getElem?_append_left (by omega)] at hv; exact h2 i v hv
      · have hi := (List.getElem?_eq_some_iff.1 hv).1
        simp [h1] at hi
        have hin : i = n := by omega
        subst hin
        rw [List.getElem?_append_right (by omega)] at hv
        simp [h1] at hv
        rw [← hv]; exact hc
    · rcases List.mem_append.1 hy with hy | hy
      · exact h4 y hy
      · rw [List.mem_singleton.1 hy]; exact hz
theorem inB_of_wf {zs : List Int} (h : ∀ n ∈ zs, (Lit.int .u8 n).wf = true) (len : Nat) : InB (zs.take len) := fun x hx => by
  have := h x (List.mem_of_mem_take hx)
  simp [Lit.wf, IntKind.min, IntKind.max, IntKind.signed, IntKind.bits] at this
  omega
section
variable {H : Type} {enc : TypeId × Value → H} {W : World}
theorem bytes_open {fuel : Nat} {v : Value} {cs : List Value} {x : DataW H × List MemPlace} (hcs : cs = [v]) (h : DataW.trod enc Try.prog W 0 (fun _ => true) true fuel 37 cs = some x) : ∃ z, E.Bt W v z ∧ InB z := by
  subst hcs
  rcases open_ints Try.underlying37 Try.underlying5 cells5 h with ⟨hv, _⟩ | ⟨y, l, c, zs, hv, _, hl, hm, hz, _, hcell, hwz⟩
  · obtain rfl := List.singleton_inj.1 hv
    exact ⟨[], E.Rw.nil W, fun x hx => by cases hx⟩
  · obtain rfl := List.singleton_inj.1 hv
    have hz' : zs.length = c := by simpa using hz
    exact ⟨zs.take l, rw_of_nums (by omega) hl hm hcell, inB_of_wf hwz l⟩
theorem rows_open {v : Value} {d : DataW H} {p : List MemPlace} (h : DataW.Trod enc Try.prog W 0 (fun _ => true) true 22 v d p) (hv : ∃ a l c, v = .slice a l c) : ∃ vs xs, E.Rw W v vs ∧ Rs W vs xs ∧ ∀ z ∈ xs, InB z := by
  obtain ⟨fuel, hf⟩ := h
  obtain ⟨a, l, c, rfl⟩ := hv
  rcases DataW.trod_slice Try.underlying22 hf with ⟨hcs, _⟩ | ⟨x, len, cap, elems, rest, n, _, hcs, _, _, hl, hm, hlen, hel, _, _⟩
  · simp [Value.cells] at hcs
    obtain ⟨rfl, rfl, rfl⟩ := hcs
    exact ⟨[], [], E.Rw.nil W, trivial, by simp⟩
  · simp [Value.cells] at hcs
    obtain ⟨rfl, rfl, rfl⟩ := hcs
    obtain ⟨vs, xs, h1, h2, h3, h4⟩ := rows_of (w := W) (x := x) l (fun i hi => by
      have he := hel i hi
      rw [cells37, Nat.mul_one, List.getElem?_eq_getElem (by omega)] at he
      obtain ⟨cs', hc, ht⟩ := Option.bind_eq_some_iff.1 he
      have hc1 := World.cells?_some hc
      have h1 : ∃ u, cs' = [u] := by
        match cs', hc1.2.1 with
        | [u], _ => exact ⟨u, rfl⟩
      obtain ⟨u, rfl⟩ := h1
      obtain ⟨z, hz, hin⟩ := bytes_open rfl ht
      exact ⟨u, z, cell_of_cells?_one hc, hz, hin⟩)
    exact ⟨vs, xs, rw_of_cells h1 hl hm h2, h3, h4⟩
theorem nums_open {v : Value} {d : DataW H} {p : List MemPlace} (h : DataW.Trod enc Try.prog W 0 (fun _ => true) true 23 v d p) (hv : ∃ a l c, v = .slice a l c) : ∃ zs : List Int, E.Rw W v (zs.map E.i64) := by
  obtain ⟨fuel, hf⟩ := h
  obtain ⟨a, l, c, rfl⟩ := hv
  rcases open_ints Try.underlying23 Try.underlying3 cells3 hf with ⟨hcs, _⟩ | ⟨x, len, cap, zs, hcs, _, hl, hm, hz, _, hcell, hwz⟩
  · simp [Value.cells] at hcs
    obtain ⟨rfl, rfl, rfl⟩ := hcs
    exact ⟨[], E.Rw.nil W⟩
  · simp [Value.cells] at hcs
    obtain ⟨rfl, rfl, rfl⟩ := hcs
    have hz' : zs.length = c := by simpa using hz
    exact ⟨zs.take l, rw_of_nums (by omega) hl hm hcell⟩
end

set_option maxRecDepth 100000 in
theorem lifted (os : Os) (started : os.Started) (H : Type) (enc : TypeId × Value → H) :
    ReturnsInHanded {} Try.checked os 3 .any (Rows.walKeepsSpec.pre6 enc Try.prog Try.f3 Rows.walKeepsRow.domain false) (Rows.walKeepsSpec.post enc Try.prog Try.f3 false true false false) := by
  refine returnsInHanded_of_change (C := Try.checked) own started (by kernel_rfl) Try.func3
    (ChangeSpec.witness6 (enc := enc) (C := Try.checked) false ⟨#[], #[.slice none 0 0, .int .i64 0, .slice none 0 0, .int .i64 0, .int .i64 0, .slice none 0 0], []⟩ 8 (by kernel_rfl) (by kernel_rfl) (by kernel_rfl) (by kernel_rfl)) ?_
  intro W base args ds gs before hval0 hW hcnd _
  have hval : ∀ (j : Nat) t v, Try.f3.params[j]? = some t → args[j]? = some v → Value.okWide Try.prog W .any base t v := hval0
  have hW' := hW
  obtain ⟨p, q, hA0, hV, rfl, hfz, hnd⟩ := hW
  have hA : DataW.TrodAll enc Try.prog W 0 (fun _ => true) true Try.f3.params.toList args.toList ds p := hA0
  rw [Try.params3] at hA hval
  obtain ⟨v0, vs0, d0, ds0, p0, q0, hargs, rfl, rfl, h0, r0⟩ := trodAll_cons hA
  obtain ⟨v1, vs1, d1, ds1, p1, q1, rfl, rfl, rfl, h1, r1⟩ := trodAll_cons r0
  obtain ⟨v2, vs2, d2, ds2, p2, q2, rfl, rfl, rfl, h2, r2⟩ := trodAll_cons r1
  obtain ⟨v3, vs3, d3, ds3, p3, q3, rfl, rfl, rfl, h3, r3⟩ := trodAll_cons r2
  obtain ⟨v4, vs4, d4, ds4, p4, q4, rfl, rfl, rfl, h4, r4⟩ := trodAll_cons r3
  obtain ⟨v5, vs5, d5, ds5, p5, q5, rfl, rfl, rfl, h5, r5⟩ := trodAll_cons r4
  obtain ⟨rfl, rfl, rfl⟩ := trodAll_nil r5
  obtain rfl : args = #[v0, v1, v2, v3, v4, v5] := by cases args; simp_all
  obtain ⟨rfl, rfl⟩ := trodVars_none hV
  have s0 := okWide_slice Try.underlying22 (hval 0 22 v0 rfl rfl)
  have s2 := okWide_slice Try.underlying23 (hval 2 23 v2 rfl rfl)
  have s5 := okWide_slice Try.underlying22 (hval 5 22 v5 rfl rfl)
  obtain ⟨a1, rfl, rfl, rfl, w1⟩ := open_int Try.underlying3 (hval 1 3 v1 rfl rfl) h1
  obtain ⟨a3, rfl, rfl, rfl, w3⟩ := open_int Try.underlying3 (hval 3 3 v3 rfl rfl) h3
  obtain ⟨a4, rfl, rfl, rfl, w4⟩ := open_int Try.underlying3 (hval 4 3 v4 rfl rfl) h4
  have lt0 : ∀ x ∈ p0, x.block < W.heap.size := by obtain ⟨m, hm⟩ := h0; exact DataW.trod_lt m _ _ _ hm
  have lt2 : ∀ x ∈ p2, x.block < W.heap.size := by obtain ⟨m, hm⟩ := h2; exact DataW.trod_lt m _ _ _ hm
  have lt5 : ∀ x ∈ p5, x.block < W.heap.size := by obtain ⟨m, hm⟩ := h5; exact DataW.trod_lt m _ _ _ hm
  obtain ⟨lvs, ls, hl, hls, hlb⟩ := rows_open h0 s0
  obtain ⟨keep, hk⟩ := nums_open h2 s2
  obtain ⟨mvs, ms, hm, hms, hmb⟩ := rows_open h5 s5
  clear hA0 hval0
  refine (f3_keeps a1 a3 a4 hl hls hlb hk hm hms hmb).mono fun e W' ⟨v, he, hv, hc⟩ => ?_
  subst hv
  subst he
  have bel := below_of_chg hc
  exact ⟨_, rfl, _, _, _, [], _, [], hW', trodAll_mk1 (shut_bool Try.underlying4 _), (trodAll_cons_mk (Below.trod laidOut (by kernel_rfl) (of_decide_eq_true (by kernel_rfl)) h0 bel lt0) (trodAll_cons_mk (shut_int Try.underlying3 w1) (trodAll_cons_mk (Below.trod laidOut (by kernel_rfl) (of_decide_eq_true (by kernel_rfl)) h2 bel lt2) (trodAll_cons_mk (shut_int Try.underlying3 w3) (trodAll_cons_mk (shut_int Try.underlying3 w4) (trodAll_cons_mk (Below.trod laidOut (by kernel_rfl) (of_decide_eq_true (by kernel_rfl)) h5 bel lt5) trodAll_mk0)))))), rfl, bel.frame _, fun h => by cases h⟩

theorem over : Rows.walKeepsRow.holds Try.pinned (OpenSpec.ofChange Rows.walKeepsSpec) :=
  OpenClaim.holds_of_wide 3 Try.f3 rfl rfl rfl rfl rfl rfl rfl ⟨rfl, rfl, rfl, rfl, rfl⟩ rfl rfl rfl rfl rfl (by kernel_rfl) Try.func3 (by kernel_rfl)
    (of_decide_eq_true (by kernel_rfl)) (by unfold Func.isWrapper; first | (rw [if_pos (by decide +kernel)]; kernel_rfl) | (rw [if_neg (by decide +kernel)]; exact ⟨rfl, rfl⟩))
    (fun os started H enc _ => lifted os started H enc)

end Go.Proofs.Ytinoebjhcmeppaa.walKeeps
namespace Go.Proofs.Ytinoebjhcmeppaa
theorem walKeeps_holds : Rows.WalKeepsSaid := walKeeps.over
#print axioms walKeeps_holds
end Go.Proofs.Ytinoebjhcmeppaa
