/- The walks of slices.AppendSeq, Collect, Sorted over a disk's dirty sectors, and of the program's (*disk.Disk).Dirty. -/
import Derived.Test.YtinoebjhcmeppaaKeys
import Derived.Test.YtinoebjhcmeppaaSort
namespace Go.Proofs.Ytinoebjhcmeppaa
open E Sha
set_option maxRecDepth 100000
set_option maxHeartbeats 4000000

theorem Chg.putObjK (w : World) (r : Nat) (o : Obj) : Chg [r] w (w.putObj r o) := Chg.setObj w r o
theorem nodup_len : ∀ {xs ys : List Nat}, xs.Nodup → (∀ i ∈ xs, i ∈ ys) → xs.length ≤ ys.length
  | [], _, _, _ => Nat.zero_le _
  | x :: xs, ys, hn, h => by
    have hn' := List.nodup_cons.1 hn
    have hx : x ∈ ys := h x (List.mem_cons_self ..)
    have := nodup_len (ys := ys.erase x) hn'.2 (fun i hi => by
      have hne : i ≠ x := fun e => hn'.1 (e ▸ hi)
      exact (List.mem_erase_of_ne hne).2 (h i (List.mem_cons_of_mem _ hi)))
    rw [List.length_erase_of_mem hx] at this
    have hpos : 0 < ys.length := List.length_pos_of_mem hx
    simp; omega

abbrev ints (xs : List Nat) : List Value := xs.map fun i => i64 (i : Nat)
/-- A block of one's own holds cells. -/
theorem own_cells {w : World} {base e n : Nat} {v : Value} {xs : List Value} (ho : w.ownsRow base e 1 v n xs) {k : Nat} {o : Obj} (hk : w.heap[k]? = some o) (hc : o.isCells = false) : k ∉ v.ownBlock.toList := by
  intro hm
  have hm : v.ownBlock = some k := by simpa using hm
  rcases ho.2 with ⟨rfl, _⟩ | ⟨g, cap, cur, rfl, _, hg, _⟩
  · simp [Value.ownBlock] at hm
  · simp [Value.ownBlock] at hm
    subst hm
    rw [hg] at hk; cases hk; cases hc

theorem f62_append {w : World} {b1 bm clock : Nat} {es : List Ent} (hg : Good es clock) (h1 : w.heap[b1]? = some (.cells #[.map (some bm)] 46 (0, 0))) (hm : w.heap[bm]? = some (mobj es clock)) (hes : es.length ≤ 4096) :
    Calls Try.prog 62 #[.slice none 0 0, .func (.func 56) #[] #[ptr b1 0]] w (Rv fun v w' => ∃ xs : List Nat, (xs.Nodup ∧ ∀ i, i ∈ xs ↔ i ∈ es.map (·.1)) ∧ xs.length ≤ 4096 ∧ w'.ownsRow w.heap.size 3 1 v xs.length (ints xs) ∧ Chg [] w w') := by
  have hmx := max_big
  refine calls_marks (args := [.slice none 0 0, .func (.func 56) #[] #[ptr b1 0]]) Try.func62 rfl Try.ntmps62 rfl ?_
  refine WQ_seq ?_
  refine Wf_region rfl rfl ?_
  refine L_box rfl (by conv => lhs; whnf) (fun w1 hb1 hc1 hs1 => ?_)
  refine L_val rfl (x_assign (by conv => lhs; whnf)) ?_
  refine L_nil ?_
  refine WQ_outer ?_
  refine WQ_seq ?_
  refine Wf_region rfl rfl ?_
  refine L_val rfl (x_move (by conv => lhs; whnf)) ?_
  refine L_nil ?_
  have hbxl := lt_of_at hb1
  refine WQ_range rfl ok56 rfl rfl (f56_seq hg (hc1.at h1 (by simp)) (hc1.at hm (by simp))) walksK_t (fun W l o o' hl h hc hw => walksK_b (w := w1) W l o o' hl h hc hw)
    (fun pre W => ∃ v, W.heap[w.heap.size]? = some (.cells #[v] 23 (0, 0)) ∧ W.ownsRow w.heap.size 3 1 v pre.length (ints pre) ∧ Chg [] w W) ?_ ?_ ?_ ?_
  · intro pre W W' row hI hgr hr
    obtain ⟨v, hv, ho, hC⟩ := hI
    have hC' : ∀ (b : Nat) (o : Obj), o.isCells = true → W.heap[b]? = some o → W'.heap[b]? = some o := fun b o hoc hob => by
      rw [hgr.block b (lt_of_at hob) (fun e => ?_)]; · exact hob
      obtain ⟨_, o', ho', hc'⟩ := hr b e.symm
      rw [hob] at ho'; cases ho'; rw [hoc] at hc'; cases hc'
    refine ⟨v, hC' _ _ rfl hv, ?_, ⟨hgr.os.trans hC.os, hgr.tape.trans hC.tape, hgr.output.trans hC.output, Nat.le_trans hC.size hgr.size, fun k hk hn => ?_⟩⟩
    · obtain ⟨h0, ho⟩ := ho
      refine ⟨h0, ?_⟩
      rcases ho with ho | ⟨g, cap, cur, rfl, hb, hgg, hrest⟩
      · exact .inl ho
      · exact .inr ⟨g, cap, cur, rfl, hb, hC' _ _ rfl hgg, hrest⟩
    · rw [hgr.block k (hC.lt hk) (fun e => by have := (hr k e.symm).1; omega)]
      exact hC.block k hk hn
  · exact ⟨_, hb1, World.ownsRow_nil _ _ _ _, hc1⟩
  · intro l pre j W hI hlenp
    obtain ⟨v, hv, ho, hC⟩ := hI
    refine Wf_block ?_
    refine Wf_region rfl rfl ?_
    refine L_val rfl (x_load sc23 rfl (cell_at (v := v) hv rfl)) ?_
    refine L_val rfl (x_move (by conv => lhs; whnf)) ?_
    refine L_one e1_23 rfl (by conv => lhs; whnf) rfl (fun W1 hW1 hc1' hs1' => ?_)
    refine L_append e1_23 rfl rfl rfl (own_chg ho hc1' (by simp)) (Rw.one hW1) (fun u hu => by rw [List.mem_singleton.1 hu]; rfl) (by simp; omega) (by simp; omega) (by have := hC.size; omega) (fun v' W2 ha => ?_)
    have hv2 := ha.chg.at (hc1'.at hv (by simp)) (own_ne (hc1'.at hv (by simp)) (by decide) (own_chg ho hc1' (by simp)))
    have hl' : v'.oneCell' = true := by
      rcases ha.own.2 with ⟨rfl, _⟩ | ⟨g, cap, cur, rfl, _⟩ <;> rfl
    refine L_store sz23 rfl rfl (v := v') rfl hl' hv2 (by simp) (fun W3 hW3 hc3 => ?_)
    refine L_nil ?_
    have ho2 := ha.own
    have he : ints pre ++ [Value.int IntKind.i64 (j : Nat)] = ints (pre ++ [j]) := by simp [ints]
    rw [he, List.length_map] at ho2
    have hkeep : ∀ (k : Nat) (o : Obj), W.heap[k]? = some o → o.isCells = false → W3.heap[k]? = some o := fun k o hk hoc => by
      refine hc3.at (ha.chg.at (hc1'.at hk (by simp)) (own_cells (own_chg ho hc1' (by simp)) (hc1'.at hk (by simp)) hoc)) ?_
      intro hm
      have hm : k = w.heap.size := by simpa using hm
      subst hm
      rw [hv] at hk; cases hk; cases hoc
    have hsz : W.heap.size ≤ W3.heap.size := Nat.le_trans hc1'.size (Nat.le_trans ha.chg.size hc3.size)
    refine ⟨⟨hsz, fun k o _ hk hoc => hkeep k o hk hoc⟩, ⟨hsz, fun k o hk how => hkeep k o hk (Obj.not_cells_of_walk how)⟩, v', by rw [hW3]; rfl, own_chg ho2 hc3 (fun b hb hm => ?_), ?_⟩
    · have hm : b = w.heap.size := by simpa using hm
      subst hm
      exact own_ne hv2 (by decide) ho2 (by simp [hb])
    · exact (((hC.same hc1').trans ha.chg (fun k hk => .inr (own_new ho k hk))).trans hc3 (by simp))
  · intro Dm xs W hDm hxs hI hDd a ha hfa
    obtain ⟨v, hv, ho, hC⟩ := hI
    refine WQ_of (ds := [markOf Dm]) (n := 13) (Wf_seq ?_) a ha hfa
    refine Wf_region rfl rfl ?_
    refine L_val rfl (x_load sc23 rfl (cell_at (v := v) hv rfl)) ?_
    refine L_val rfl (x_assign (v := v) rfl) ?_
    refine L_nil ?_
    refine Wf_ret ?_
    intro a2 ha2 hfa2
    have hP := Chg.putObjK W Dm (.deferred none)
    have hxl : xs.length ≤ 4096 := by
      have h3 : xs.length ≤ (es.map (·.1)).length := nodup_len hxs.1 (fun i hi => (hxs.2 i).1 hi)
      rw [List.length_map] at h3; omega
    refine leaves_mark ha2 ⟨hDd, hfa2 ▸ res1 (v := v) rfl rfl ⟨xs, hxs, hxl, own_chg ho hP (fun b hb hm => ?_), hC.trans hP (by simp; omega)⟩⟩
    have hm : b = Dm := by simpa using hm
    subst hm
    exact own_cells ho hDd rfl (by simp [hb])
theorem f54_collect {w : World} {b1 bm clock : Nat} {es : List Ent} (hg : Good es clock) (h1 : w.heap[b1]? = some (.cells #[.map (some bm)] 46 (0, 0))) (hm : w.heap[bm]? = some (mobj es clock)) (hes : es.length ≤ 4096) :
    Calls Try.prog 54 #[.func (.func 56) #[] #[ptr b1 0]] w (Rv fun v w' => ∃ xs : List Nat, (xs.Nodup ∧ ∀ i, i ∈ xs ↔ i ∈ es.map (·.1)) ∧ xs.length ≤ 4096 ∧ w'.ownsRow w.heap.size 3 1 v xs.length (ints xs) ∧ Chg [] w w') := by
  refine calls_W (args := [.func (.func 56) #[] #[ptr b1 0]]) Try.func54 rfl Try.ntmps54 rfl ?_
  refine W_seq ?_
  refine W_region rfl ?_
  refine L_val rfl (x_assign (by conv => lhs; whnf)) ?_
  refine L_nil ?_
  refine W_seq ?_
  refine W_region rfl ?_
  refine L_val rfl (x_move (by conv => lhs; whnf)) ?_
  refine L_call rfl (x_call ok62) (f62_append hg h1 hm hes) (fun v w1 hv => ?_)
  refine L_val rfl (x_assign (v := v) rfl) ?_
  refine L_nil ?_
  refine W_ret ?_
  exact res1 (v := v) rfl rfl hv

open Go.Sort in
/-- What the sort leaves. -/
theorem sorted_row {w : World} {g : Nat} {cur : Array Value} {zs : List Int} {n : Nat} {os : Array Obj} (hg : w.heap[g]? = some (.cells cur 3 (0, 0))) (hH : Holds (Value.int .i64) w g 0 zs.toArray) (ys : List Int) (hl : ys.length = zs.length) :
    (∀ j, j < ys.length → (Sort.grow (putRow (Value.int .i64) (Sort.ahead w n) g 0 ys.toArray) os).cell? ⟨g, j, none⟩ = some (i64 (ys.getD j 0))) ∧ Chg [g] w (Sort.grow (putRow (Value.int .i64) (Sort.ahead w n) g 0 ys.toArray) os) := by
  have hlt := lt_of_at hg
  refine ⟨fun j hj => ?_, ⟨rfl, rfl, rfl, ?_, fun k hk hn => ?_⟩⟩
  · rw [cell?_grow _ _ _ (by simpa using hlt)]
    have := cell?_putRow (Value.int .i64) (Sort.ahead w n) g 0 zs.toArray ys.toArray (fun j hj => hH j hj) (by simp [hl]) j (by simpa using hj)
    rw [Nat.zero_add] at this
    rw [this]
    simp [hj]
  · simp [Sort.ahead]
  · rw [heap_grow_old _ _ (by simpa [Sort.ahead] using hk)]
    have : k ≠ g := by simpa using hn
    simp [putRow, mapBlock, Sort.ahead, Array.getElem?_modify, Ne.symm this]

theorem f40_sorted {w : World} {b1 bm clock : Nat} {es : List Ent} (hg : Good es clock) (h1 : w.heap[b1]? = some (.cells #[.map (some bm)] 46 (0, 0))) (hm : w.heap[bm]? = some (mobj es clock)) (hes : es.length ≤ 4096) :
    Calls Try.prog 40 #[.func (.func 56) #[] #[ptr b1 0]] w (Rv fun v w' => ∃ xs : List Nat, (xs.Nodup ∧ ∀ i, i ∈ xs ↔ i ∈ es.map (·.1)) ∧ xs.length ≤ 4096 ∧ Rw w' v (ints xs) ∧ (∀ b, v.ownBlock = some b → w.heap.size ≤ b ∧ b < w'.heap.size) ∧ Chg [] w w') := by
  have hmx := max_big
  refine calls_W (args := [.func (.func 56) #[] #[ptr b1 0]]) Try.func40 rfl Try.ntmps40 rfl ?_
  refine W_seq ?_
  refine W_region rfl ?_
  refine L_val rfl (x_assign (by conv => lhs; whnf)) ?_
  refine L_nil ?_
  refine W_seq ?_
  refine W_region rfl ?_
  refine L_val rfl (x_move (by conv => lhs; whnf)) ?_
  refine L_call rfl (x_call ok54) (f54_collect hg h1 hm hes) (fun v w1 ⟨xs, hxs, hxl, ho, hc1⟩ => ?_)
  refine L_val rfl (x_assign (v := v) rfl) ?_
  refine L_nil ?_
  refine W_seq ?_
  refine W_region rfl ?_
  refine L_val rfl (x_move (v := v) rfl) ?_
  have hfin : ∃ Q : Value → World → Prop, Calls Try.prog 55 #[v] w1 (Rv Q) ∧ ∀ u w2, Q u w2 → ∃ ys : List Nat, (ys.Nodup ∧ ∀ i, i ∈ ys ↔ i ∈ es.map (·.1)) ∧ ys.length ≤ 4096 ∧ Rw w2 v (ints ys) ∧ (∀ b, v.ownBlock = some b → w.heap.size ≤ b ∧ b < w2.heap.size) ∧ Chg [] w w2 := by
    have hlen : xs.length = (ints xs).length := by simp [ints]
    rcases ho.2 with ⟨rfl, h0⟩ | ⟨g, cap, cur, rfl, hgb, hgg, hnc, hcm, hcs, htk⟩
    · refine ⟨fun u w2 => w2 = w1, (f55_sort_none none 0 w1).mono (fun e w' ⟨he, hw⟩ => ⟨_, he, hw⟩), fun u w2 hw => ?_⟩
      subst hw
      have : xs = [] := List.eq_nil_of_length_eq_zero h0
      subst this
      exact ⟨[], hxs, by simp, Rw.nil _, fun b hb => by simp [Value.ownBlock] at hb, hc1⟩
    · have hlt := lt_of_at hgg
      have hz : (xs.map fun i => ((i : Nat) : Int)).length = xs.length := by simp
      have hcell : ∀ j, j < xs.length → w1.cell? ⟨g, 0 + j, none⟩ = some (i64 ((xs.getD j 0 : Nat) : Int)) := fun j hj => by
        rw [Nat.zero_add]
        refine cell_at hgg ?_
        have h9 : (ints xs)[j]? = some (i64 ((xs.getD j 0 : Nat) : Int)) := by simp [ints, hj]
        rw [← htk, List.getElem?_take] at h9
        split at h9
        · simpa using h9
        · cases h9
      have hH : Go.Sort.Holds (Value.int .i64) w1 g 0 (xs.map fun i => ((i : Nat) : Int)).toArray := fun j hj => by
        have hj' : j < xs.length := by simpa using hj
        refine ⟨by rw [hcell j hj']; simp [hj'], ?_⟩
        simp [World.frozen?, hgg]
      have hs := f55_sort g 0 cap (xs.map fun i => ((i : Nat) : Int)) w1 hH hlt (by rw [hz]; omega)
      rw [hz] at hs
      refine ⟨fun u w2 => ∃ n os, w2 = Go.Sort.grow (Go.Sort.putRow (Value.int .i64) (Go.Sort.ahead w1 n) g 0 ((xs.map fun i => ((i : Nat) : Int)).mergeSort fun x y => decide (x ≤ y)).toArray) os, hs.mono (fun e w' ⟨he, hw⟩ => ⟨_, he, hw⟩), fun u w2 ⟨n, os, hw⟩ => ?_⟩
      have hperm := List.mergeSort_perm (xs.map fun i => ((i : Nat) : Int)) (fun x y => decide (x ≤ y))
      generalize hys : ((xs.map fun i => ((i : Nat) : Int)).mergeSort fun x y => decide (x ≤ y)) = zs at hw hperm
      have hzl : zs.length = xs.length := by have := hperm.length_eq; simpa using this
      obtain ⟨hrow, hch⟩ := sorted_row (n := n) (os := os) hgg hH zs (by rw [hzl]; simp)
      rw [← hw] at hrow hch
      have hnat : ∀ z ∈ zs, ((z.toNat : Nat) : Int) = z := fun z hz' => by
        have := (hperm.mem_iff).1 hz'
        simp at this; obtain ⟨i, _, rfl⟩ := this; omega
      have hzm : (zs.map Int.toNat).map (fun i => ((i : Nat) : Int)) = zs := by
        rw [List.map_map]
        conv => rhs; rw [← List.map_id zs]
        exact List.map_congr_left (fun z hz' => hnat z hz')
      have hp2 : (zs.map Int.toNat).Perm xs := by
        have := hperm.map Int.toNat
        rwa [List.map_map, show (Int.toNat ∘ fun i : Nat => ((i : Nat) : Int)) = id from by funext i; simp, List.map_id] at this
      refine ⟨zs.map Int.toNat, ⟨hp2.nodup_iff.2 hxs.1, fun i => (hp2.mem_iff).trans (hxs.2 i)⟩, by simp [hzl]; omega, ⟨_, cap, by simp [ints, hzl], by simp [ints, hzl]; omega, hcm, fun j u hu => ⟨g, 0, rfl, ?_⟩⟩, fun b hb => ?_, hc1.trans hch (by simp; omega)⟩
      · have hj := (List.getElem?_eq_some_iff.1 hu).1
        simp [ints] at hj
        rw [Nat.zero_add, hrow j hj, ← hu]
        have := hnat zs[j] (List.getElem_mem hj)
        simp [ints, hj, this]
      · simp [Value.ownBlock] at hb
        subst hb
        exact ⟨hgb, hch.lt hlt⟩
  obtain ⟨Q, hcall, hQ⟩ := hfin
  refine L_call rfl (x_call ok55) hcall (fun u w2 hu => ?_)
  refine L_nil ?_
  refine W_seq ?_
  refine W_region rfl ?_
  refine L_val rfl (x_move (v := v) rfl) ?_
  refine L_val rfl (x_assign (v := v) rfl) ?_
  refine L_nil ?_
  refine W_ret ?_
  exact res1 (v := v) rfl rfl (hQ u w2 hu)

theorem f17_dirty {w : World} {bd bs bm n : Nat} {S : Nat → List Int} {D : Nat → Option (List Int)} (h : Dk w bd bs bm n S D) (hn : n ≤ 4096) :
    Calls Try.prog 17 #[ptr bd 0] w (Rv fun v w' => ∃ xs : List Nat, xs.Nodup ∧ (∀ i, i ∈ xs ↔ (D i).isSome = true) ∧ xs.length ≤ 4096 ∧ Rw w' v (ints xs) ∧ (∀ b, v.ownBlock = some b → w.heap.size ≤ b ∧ b < w'.heap.size) ∧ Chg [] w w') := by
  obtain ⟨es, clock, hg, hm, he, hD⟩ := h.dirty
  have hes : es.length ≤ 4096 := by
    have h3 : (es.map (·.1)).length ≤ (List.range n).length := nodup_len hg.key (fun i hi => by
      obtain ⟨x, hx, rfl⟩ := List.mem_map.1 hi
      exact List.mem_range.2 (he x hx).1)
    simp at h3; omega
  have hsome : ∀ i, i ∈ es.map (·.1) ↔ (D i).isSome = true := fun i => by
    rw [← hD i]
    unfold getE
    constructor
    · intro hi
      obtain ⟨x, hx, rfl⟩ := List.mem_map.1 hi
      rw [find_key hg.key hx]; rfl
    · intro hi
      cases hf : es.find? (·.1 == i) with
      | none => rw [hf] at hi; cases hi
      | some x =>
        have h2 := List.find?_some hf
        simp at h2
        exact List.mem_map.2 ⟨x, List.mem_of_find?_eq_some hf, h2⟩
  refine calls_W (args := [ptr bd 0]) Try.func17 rfl Try.ntmps17 rfl ?_
  refine W_seq ?_
  refine W_region rfl ?_
  refine L_val rfl (x_assign (by conv => lhs; whnf)) ?_
  refine L_nil ?_
  refine W_seq ?_
  refine W_seq ?_
  refine W_region rfl ?_
  refine L_val rfl (x_move (by conv => lhs; whnf)) ?_
  refine L_val rfl (x_eqlNil pt24 rfl rfl) ?_
  refine L_nil ?_
  refine W_false rfl ?_
  refine W_skip ?_
  refine W_seq ?_
  refine W_region rfl ?_
  refine L_val rfl (x_move (by conv => lhs; whnf)) ?_
  refine L_val rfl (x_nilCheck rfl) ?_
  refine L_val rfl (x_field fo_48_1 rfl) ?_
  refine L_val rfl (x_load sc46 rfl (cell_at (v := .map (some bm)) h.desc rfl)) ?_
  refine L_call rfl (x_call ok41) f41_keys (fun v w1 ⟨b1, hv, hb1s, hb1, hc1⟩ => ?_)
  subst hv
  refine L_call rfl (x_call ok40) (f40_sorted hg hb1 (hc1.at hm (by simp)) hes) (fun v w2 ⟨xs, hxs, hxl, hr, hb, hc2⟩ => ?_)
  refine L_val rfl (x_assign (v := v) rfl) ?_
  refine L_nil ?_
  refine W_ret ?_
  refine res1 (v := v) rfl rfl ⟨xs, hxs.1, fun i => (hxs.2 i).trans (hsome i), hxl, hr, fun b hb' => ?_, hc1.same hc2⟩
  have := hb b hb'
  have := hc1.size
  omega
end Go.Proofs.Ytinoebjhcmeppaa
