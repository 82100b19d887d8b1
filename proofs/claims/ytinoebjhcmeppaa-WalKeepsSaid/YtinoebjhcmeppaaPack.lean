/- The walks of the program's pack.Writer: Num of four bytes, Raw, Bytes. -/
import Derived.Test.YtinoebjhcmeppaaShaD
namespace Go.Proofs.Ytinoebjhcmeppaa
open E Sha
set_option maxRecDepth 100000
set_option maxHeartbeats 2000000

/-- Blocks below B stay as they are. -/
structure Upto (B : Nat) (w w' : World) : Prop where
  os : w'.os = w.os
  tape : w'.tape = w.tape
  output : w'.output = w.output
  size : w.heap.size ≤ w'.heap.size
  block : ∀ k, k < w.heap.size → k < B → w'.heap[k]? = w.heap[k]?
section
variable {w w' w'' : World} {B : Nat}
theorem Upto.refl (B : Nat) (w : World) : Upto B w w := ⟨rfl, rfl, rfl, Nat.le_refl _, fun _ _ _ => rfl⟩
theorem Upto.trans (h : Upto B w w') (h' : Upto B w' w'') : Upto B w w'' :=
  ⟨h'.os.trans h.os, h'.tape.trans h.tape, h'.output.trans h.output, Nat.le_trans h.size h'.size, fun k h1 h2 => (h'.block k (Nat.lt_of_lt_of_le h1 h.size) h2).trans (h.block k h1 h2)⟩
theorem Upto.of {S : List Nat} (h : Chg S w w') (hS : ∀ k ∈ S, B ≤ k) : Upto B w w' :=
  ⟨h.os, h.tape, h.output, h.size, fun k h1 h2 => h.block k h1 (fun hm => by have := hS k hm; omega)⟩
theorem Upto.chg (h : Upto w.heap.size w w') : Chg [] w w' := ⟨h.os, h.tape, h.output, h.size, fun k h1 _ => h.block k h1 h1⟩
theorem Upto.base {w0 : World} (h0 : Chg [] w0 w) (h : Upto w0.heap.size w w') : Chg [] w0 w' :=
  ⟨h.os.trans h0.os, h.tape.trans h0.tape, h.output.trans h0.output, Nat.le_trans h0.size h.size, fun k h1 _ => (h.block k (Nat.lt_of_lt_of_le h1 h0.size) h1).trans (h0.block k h1 (by simp))⟩
theorem _root_.Go.Proofs.Ytinoebjhcmeppaa.E.Chg.base' {w0 : World} (h0 : Chg [] w0 w) (h : Upto w0.heap.size w w') : Chg [] w0 w' := Upto.base h0 h
theorem Upto.at (h : Upto B w w') {b : Nat} {o : Obj} (hb : w.heap[b]? = some o) (hn : b < B) : w'.heap[b]? = some o := by
  rw [h.block b (lt_of_at hb) hn]; exact hb
theorem _root_.Go.Proofs.Ytinoebjhcmeppaa.E.Rw.upto {v : Value} {xs : List Value} (h : Rw w v xs) (hc : Upto B w w') (hS : ∀ b, v.ownBlock = some b → b < B) : Rw w' v xs := by
  obtain ⟨a, cap, rfl, h1, h2, h3⟩ := h
  refine ⟨a, cap, rfl, h1, h2, fun j u hu => ?_⟩
  obtain ⟨b, o, rfl, hcell⟩ := h3 j u hu
  refine ⟨b, o, rfl, ?_⟩
  rw [World.cell?_of_block (w := w) (hc.block b (World.block_lt_of_cell? w _ hcell) (hS b rfl))]; exact hcell
end

/-- A writer that holds these bytes. -/
def Wr (w : World) (base bw : Nat) (bs : List Int) : Prop :=
  base ≤ bw ∧ ∃ v, w.heap[bw]? = some (.cells #[v] 71 (0, 0)) ∧ w.ownsRow base 5 1 v bs.length (bs.map u8)
theorem Wr.chg {S : List Nat} {w w' : World} {base bw : Nat} {bs : List Int} (h : Wr w base bw bs) (hc : Chg S w w') (hS : ∀ k ∈ S, k < base) : Wr w' base bw bs := by
  obtain ⟨h0, v, hb, ho⟩ := h
  refine ⟨h0, v, hc.at hb (fun hm => by have := hS _ hm; omega), own_chg ho hc (fun b hb hm => ?_)⟩
  have := hS _ hm
  have := (ho.lt b hb).1
  omega
theorem own_ne {w : World} {base bw n e : Nat} {v : Value} {xs : List Value} {c : Array Value} {T : TypeId} {z : Nat × Nat} (hb : w.heap[bw]? = some (.cells c T z)) (hT : T ≠ e) (ho : w.ownsRow base e 1 v n xs) : bw ∉ v.ownBlock.toList := by
  intro hm
  have hm : v.ownBlock = some bw := by simpa using hm
  rcases ho.2 with ⟨rfl, _⟩ | ⟨g, cap, cur, rfl, _, hg, _⟩
  · simp [Value.ownBlock] at hm
  · simp [Value.ownBlock] at hm
    subst hm
    rw [hb] at hg
    simp at hg
    exact hT hg.2.1

/-- The lowest bytes of a number, the greatest first: the first j of four. -/
def nb (x : Int) (j : Nat) : List Int := (List.range j).map fun i => IntKind.u8.wrap (x.fdiv (2 ^ (24 - 8 * i)))
theorem nb_succ (x : Int) (j : Nat) : nb x (j + 1) = nb x j ++ [IntKind.u8.wrap (x.fdiv (2 ^ (24 - 8 * j)))] := by simp [nb, List.range_succ]
theorem nb_len (x : Int) (j : Nat) : (nb x j).length = j := by simp [nb]
theorem max_big : 1099511627776 ≤ maxLen := by decide

theorem f34_raw {w : World} {base bw : Nat} {bs ys : List Int} {x : Value} (hW : Wr w base bw bs) (hx : Bt w x ys) (hbase : base ≤ w.heap.size) (hlen : bs.length + ys.length ≤ 549755813888) :
    Calls Try.prog 34 #[ptr bw 0, x] w (Rv fun _ w' => Wr w' base bw (bs ++ ys) ∧ Upto base w w') := by
  obtain ⟨h0, v, hb, ho⟩ := hW
  have hmx := max_big
  refine calls_W (args := [ptr bw 0, x]) Try.func34 rfl Try.ntmps34 rfl ?_
  refine W_seq ?_
  refine W_region rfl ?_
  refine L_val rfl (x_move (by conv => lhs; whnf)) ?_
  refine L_val rfl (x_neqNil pt97 rfl rfl) ?_
  refine L_nil ?_
  refine W_true rfl ?_
  refine W_region rfl ?_
  refine L_val rfl (x_move (by conv => lhs; whnf)) ?_
  refine L_val rfl (x_move (by conv => lhs; whnf)) ?_
  refine L_val rfl (x_nilCheck rfl) ?_
  refine L_val rfl (x_field fo_71_0 rfl) ?_
  refine L_val rfl (x_load sc37 rfl (cell_at (v := v) hb rfl)) ?_
  refine L_val rfl (x_move (v := x) rfl) ?_
  refine L_append e1_37 rfl rfl rfl ho hx (b8 ys) (by simp; omega) (by simp; omega) (by omega) (fun v' w1 ha => ?_)
  refine L_val rfl (x_nilCheck rfl) ?_
  refine L_val rfl (x_field fo_71_0 rfl) ?_
  have hb1 := ha.chg.at hb (own_ne hb (by decide) ho)
  have hl' : v'.oneCell' = true := by
    rcases ha.own.2 with ⟨rfl, _⟩ | ⟨g, cap, cur, rfl, _⟩ <;> rfl
  refine L_store sz37 rfl rfl (v := v') rfl hl' hb1 (by simp) (fun w2 hb2 hc2 => ?_)
  refine L_nil ?_
  have ho1 := ha.own
  rw [← List.map_append, List.length_map] at ho1
  have hne : ∀ b, v'.ownBlock = some b → b ∉ [bw] := fun b hb' hm => by
    have hm : b = bw := by simpa using hm
    subst hm
    exact own_ne hb1 (by decide) ho1 (by simp [hb'])
  refine res0 rfl ⟨⟨h0, v', ?_, own_chg ho1 hc2 hne⟩, ?_⟩
  · rw [hb2]; rfl
  · exact (Upto.of ha.chg (fun k hk => own_new ho k hk)).trans (Upto.of hc2 (by simpa using h0))

theorem f33_num {w : World} {base bw : Nat} {bs : List Int} {x : Int} (hW : Wr w base bw bs) (hbase : base ≤ w.heap.size) (hlen : bs.length ≤ 274877906944) :
    Calls Try.prog 33 #[ptr bw 0, u64 x, i64 4] w (Rv fun _ w' => Wr w' base bw (bs ++ nb x 4) ∧ Upto base w w') := by
  have hmx := max_big
  refine calls_W (args := [ptr bw 0, u64 x, i64 4]) Try.func33 rfl Try.ntmps33 rfl ?_
  refine W_seq ?_
  refine W_seq ?_
  refine W_region rfl ?_
  refine L_val rfl (x_move (by conv => lhs; whnf)) ?_
  refine L_val rfl (x_eqlNil pt97 rfl rfl) ?_
  refine L_val rfl (x_move (by conv => lhs; whnf)) ?_
  refine L_val rfl (x_move (by conv => lhs; whnf)) ?_
  refine L_val rfl (x_lss (r := false) rfl rfl (by decide)) ?_
  refine L_val rfl (x_pick_f rfl (by conv => lhs; whnf)) ?_
  refine L_val rfl (x_move (by conv => lhs; whnf)) ?_
  refine L_val rfl (x_move (by conv => lhs; whnf)) ?_
  refine L_val rfl (x_gtr (r := false) rfl rfl (by decide)) ?_
  refine L_val rfl (x_pick_f rfl (by conv => lhs; whnf)) ?_
  refine L_nil ?_
  refine W_false rfl ?_
  refine W_skip ?_
  refine W_seq ?_
  refine W_region rfl ?_
  refine L_val rfl (x_move (by conv => lhs; whnf)) ?_
  refine L_val rfl (x_sub rfl rfl (wr64 (c := 3 - ((0 : Nat) : Int)) (by omega) (by omega) (by omega))) ?_
  refine L_val rfl (x_assign (by conv => lhs; whnf)) ?_
  refine L_nil ?_
  refine W_block ?_
  refine W_loop (fun m f w1 => ∃ j, j ≤ 4 ∧ m = 4 - j ∧ Frm f [(0, ptr bw 0), (1, u64 x), (6, i64 (3 - (j : Nat)))] ∧ Wr w1 base bw (bs ++ nb x j) ∧ Upto base w w1) 4
    ⟨0, by omega, rfl, ⟨rfl, rfl, rfl, trivial⟩, by simpa [nb] using hW, Upto.refl _ _⟩ (fun m f w1 hI => ?_)
  obtain ⟨j, hj, rfl, hF, hW1, hc1⟩ := hI
  obtain ⟨g, rfl⟩ := hF.eta
  refine W_seq ?_
  refine W_seq ?_
  refine W_region rfl ?_
  refine L_val rfl (x_move (by conv => lhs; whnf)) ?_
  refine L_val rfl (x_geq rfl rfl rfl) ?_
  refine L_nil ?_
  by_cases hcond : j < 4
  · refine W_true (congrArg Value.bool (decide_eq_true (by omega))) ?_
    refine W_skip ?_
    refine W_seq ?_
    refine W_block ?_
    obtain ⟨h0, v, hb, ho⟩ := hW1
    refine W_region rfl ?_
    refine L_val rfl (x_move (by conv => lhs; whnf)) ?_
    refine L_val rfl (x_move (by conv => lhs; whnf)) ?_
    refine L_val rfl (x_nilCheck rfl) ?_
    refine L_val rfl (x_field fo_71_0 rfl) ?_
    refine L_val rfl (x_load sc37 rfl (cell_at (v := v) hb rfl)) ?_
    refine L_val rfl (x_move (by conv => lhs; whnf)) ?_
    refine L_val rfl (x_move (by conv => lhs; whnf)) ?_
    refine L_val rfl (x_mul rfl rfl (wr64 (c := ((24 - 8 * j : Nat) : Int)) (by omega) (by omega) (by omega))) ?_
    refine L_val rfl (x_conv kd3 kd36 rfl (wru64 (c := ((24 - 8 * j : Nat) : Int)) (by omega) (by omega) (by omega))) ?_
    refine L_val rfl (x_shr (c := x.fdiv (2 ^ (24 - 8 * j))) rfl rfl (by omega) (by rw [show min ((24 - 8 * j : Nat) : Int).toNat IntKind.u64.bits = 24 - 8 * j by simp [IntKind.bits]; omega])) ?_
    refine L_val rfl (x_conv kd73 kd5 rfl rfl) ?_
    refine L_one e1_37 rfl (by conv => lhs; whnf) rfl (fun w2 hb2 hc2 hs2 => ?_)
    refine L_append e1_37 rfl rfl rfl (own_chg ho hc2 (by simp)) (Rw.one hb2) (fun u hu => by rw [List.mem_singleton.1 hu]; rfl) (by simp [nb]; omega) (by simp [nb]; omega) (by have := hc1.size; omega) (fun v' w3 ha => ?_)
    refine L_val rfl (x_nilCheck rfl) ?_
    refine L_val rfl (x_field fo_71_0 rfl) ?_
    have hb3 := ha.chg.at (hc2.at hb (by simp)) (own_ne hb (by decide) ho)
    have hl' : v'.oneCell' = true := by
      rcases ha.own.2 with ⟨rfl, _⟩ | ⟨g, cap, cur, rfl, _⟩ <;> rfl
    refine L_store sz37 rfl rfl (v := v') rfl hl' hb3 (by simp) (fun w4 hb4 hc4 => ?_)
    refine L_nil ?_
    refine W_region rfl ?_
    refine L_val rfl (x_move (by conv => lhs; whnf)) ?_
    refine L_val rfl (x_sub rfl rfl (wr64 (c := 3 - ((j + 1 : Nat) : Int)) (by omega) (by omega) (by omega))) ?_
    refine L_val rfl (x_assign (by conv => lhs; whnf)) ?_
    refine L_nil ?_
    have ho1 := ha.own
    have he : (List.map u8 (bs ++ nb x j) ++ [Value.int IntKind.u8 (IntKind.u8.wrap (x.fdiv (2 ^ (24 - 8 * j))))]) = List.map u8 (bs ++ nb x (j + 1)) := by rw [nb_succ]; simp
    rw [he, List.length_map] at ho1
    have hne : ∀ b, v'.ownBlock = some b → b ∉ [bw] := fun b hb' hm => by
      have hm : b = bw := by simpa using hm
      subst hm
      exact own_ne hb3 (by decide) ho1 (by simp [hb'])
    refine ⟨4 - (j + 1), by omega, j + 1, by omega, rfl, ⟨rfl, rfl, rfl, trivial⟩, ⟨h0, v', by rw [hb4]; rfl, own_chg ho1 hc4 hne⟩, ?_⟩
    exact ((hc1.trans (Upto.of hc2 (by simp))).trans (Upto.of ha.chg (fun k hk => own_new ho k hk))).trans (Upto.of hc4 (by simpa using h0))
  · refine W_false (congrArg Value.bool (decide_eq_false (by omega))) ?_
    refine W_exit ?_
    have hj4 : j = 4 := by omega
    subst hj4
    simp only [Nat.beq_refl, cond_true]
    exact res0 rfl ⟨hW1, hc1⟩

/-- A slice of nothing that is made. -/
theorem run_buildSlice0 {P : Program} {w : World} {t e : TypeId} {z : Value} {by' : Nat} (he : elem1 P t = some (e, z, by')) : (Instr.buildSlice t 0 #[]).run P w = .ok (.slice (some ⟨w.heap.size, 0, none⟩) 0 0) (w.alloc (.cells #[] e)) := by
  obtain ⟨hu, i, hi, hz, hsz, hby, hzs⟩ := elem1_spec he
  have hr : Array.range 0 = #[] := rfl
  simp [Instr.buildSlice, run_underlying hu, sizeOf, typeInfo, hi, hsz, Instr.fill, newRow, hr]
theorem L_none {P : Program} {ops : Array Oper} {N : Fr → World → Prop} {f : Fr} {w : World} {l : List Oper} {d : Tmp} {ps : String} {af : Array Edge} {gd : Option (Nat × Bool)} {ty t e : TypeId} {z : Value} {by' : Nat} (he : elem1 P t = some (e, z, by'))
    (hw : Region.wanted ⟨some d, .buildSlice t 0 #[], ty, ps, af, gd⟩ (yieldedF ops f) = true)
    (h : ∀ w', w'.heap[w.heap.size]? = some (.cells #[] e (0, 0)) → Chg [] w w' → w'.heap.size = w.heap.size + 1 → L P ops false N l (upd f d (.slice (some ⟨w.heap.size, 0, none⟩) 0 0)) w') :
    L P ops false N (⟨some d, .buildSlice t 0 #[], ty, ps, af, gd⟩ :: l) f w :=
  L_new hw (x_buildSlice (vs := #[]) (by simp) (run_buildSlice0 he)) (h _ (heap_alloc_new _ _) (Chg.alloc [] w _) (by simp))

/-- A slice of one's own that was made behind w. -/
def OwnB (w0 w : World) (v : Value) (bs : List Int) : Prop := w.ownsRow w0.heap.size 5 1 v bs.length (bs.map u8)
theorem OwnB.bt {w0 w : World} {v : Value} {bs : List Int} (h : OwnB w0 w v bs) : Bt w v bs := Rw.of_own h

theorem f37_bytes {w : World} {base bw : Nat} {bs : List Int} (hW : Wr w base bw bs) (hlen : bs.length ≤ 549755813888) :
    Calls Try.prog 37 #[ptr bw 0] w (Rv fun v w' => OwnB w w' v bs ∧ Chg [] w w') := by
  obtain ⟨h0, v, hb, ho⟩ := hW
  have hmx := max_big
  refine calls_W (args := [ptr bw 0]) Try.func37 rfl Try.ntmps37 rfl ?_
  refine W_seq ?_
  refine W_region rfl ?_
  refine L_val rfl (x_assign (by conv => lhs; whnf)) ?_
  refine L_nil ?_
  refine W_seq ?_
  refine W_seq ?_
  refine W_region rfl ?_
  refine L_val rfl (x_move (by conv => lhs; whnf)) ?_
  refine L_val rfl (x_eqlNil pt97 rfl rfl) ?_
  refine L_nil ?_
  refine W_false rfl ?_
  refine W_skip ?_
  refine W_seq ?_
  refine W_region rfl ?_
  refine L_none e1_37 rfl (fun w1 hb1 hc1 hs1 => ?_)
  refine L_val rfl (x_move (by conv => lhs; whnf)) ?_
  refine L_val rfl (x_nilCheck rfl) ?_
  refine L_val rfl (x_field fo_71_0 rfl) ?_
  refine L_val rfl (x_load sc37 rfl (cell_at (v := v) (hc1.at hb (by simp)) rfl)) ?_
  refine L_append (base := w.heap.size) (xs := []) (n := 0) e1_37 rfl rfl rfl (owns_block hb1 (Nat.le_refl _) rfl rfl (by decide)) (Rw.of_own (own_chg ho hc1 (by simp))) (b8 bs) (by simp; omega) (by simp; omega) (by omega) (fun v' w2 ha => ?_)
  refine L_val rfl (x_assign (v := v') rfl) ?_
  refine L_nil ?_
  refine W_ret ?_
  have h1 := ha.own
  rw [List.nil_append, List.length_map] at h1
  refine res1 rfl rfl ⟨h1, hc1.trans ha.chg (fun k hk => .inr ?_)⟩
  have hk' : k ∈ (Value.slice (some ⟨w.heap.size, 0, none⟩) 0 0).ownBlock.toList := hk
  simp [Value.ownBlock] at hk'
  omega
end Go.Proofs.Ytinoebjhcmeppaa
