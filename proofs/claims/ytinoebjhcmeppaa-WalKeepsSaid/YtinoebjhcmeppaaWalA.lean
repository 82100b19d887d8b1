/- A log on a disk: what a record is, in plain Lean; appends to a slice that is full; the walk of the program's (*wal.Log).read. -/
import Derived.Test.YtinoebjhcmeppaaSync
import Derived.Laws.BitsAllLaws
namespace Go.Proofs.Ytinoebjhcmeppaa
open E Sha
set_option maxRecDepth 100000
set_option maxHeartbeats 2000000

/-! ### Plain Lean -/
def InB (bs : List Int) : Prop := ∀ x ∈ bs, 0 ≤ x ∧ x ≤ 255
/-- The number that four bytes tell. -/
def num4 (bs : List Int) : Nat := (((at' bs 0 * 256 + at' bs 1) * 256 + at' bs 2) * 256 + at' bs 3).toNat
/-- k sectors, one behind the other. -/
def flat (F : Nat → List Int) (a k : Nat) : List Int := (List.range k).flatMap fun j => F (a + j)
/-- The record that stands at a sector. -/
def recAt (F : Nat → List Int) (n a : Nat) : Option (List Int) :=
  if a < n ∧ 1 ≤ num4 (F a) ∧ num4 (F a) ≤ 20000 ∧ (num4 (F a) + 75) / 64 ≤ n - a then some (((flat F a ((num4 (F a) + 75) / 64)).drop 12).take (num4 (F a))) else none
def wantAt (F : Nat → List Int) (a : Nat) : List Int := ((F a).drop 4).take 8

theorem at_range {bs : List Int} (h : InB bs) (i : Nat) : 0 ≤ at' bs i ∧ at' bs i ≤ 255 := by
  unfold at'
  by_cases hi : i < bs.length
  · simp only [List.getD_eq_getElem?_getD, List.getElem?_eq_getElem hi, Option.getD_some]; exact h _ (List.getElem_mem hi)
  · simp [List.getD_eq_getElem?_getD, List.getElem?_eq_none (Nat.not_lt.1 hi)]
theorem or_step (x b : Int) (h0 : 0 ≤ x) (h1 : x < 4294967296) (hb0 : 0 ≤ b) (hb1 : b ≤ 255) : bits .or .u64 (IntKind.u64.wrap (x * 2 ^ 8)) (IntKind.u64.wrap b) = x * 256 + b := by
  have e1 : IntKind.u64.wrap (x * 2 ^ 8) = ((x.toNat * 256 : Nat) : Int) := wru64 (by omega) (by omega) (by omega)
  have e2 : IntKind.u64.wrap b = ((b.toNat : Nat) : Int) := wru64 (by omega) (by omega) (by omega)
  rw [e1, e2, u64_or_nat _ _ (by omega) (by omega)]
  have := Nat.shiftLeft_add_eq_or_of_lt (a := x.toNat) (b := b.toNat) (i := 8) (by omega)
  rw [Nat.shiftLeft_eq] at this
  rw [← this]
  omega
theorem nm_num4 {bs : List Int} (h : InB bs) : nm bs 4 = (num4 bs : Nat) := by
  have a0 := at_range h 0; have a1 := at_range h 1; have a2 := at_range h 2; have a3 := at_range h 3
  have n1 : nm bs 1 = at' bs 0 := by
    have := or_step 0 (at' bs 0) (by omega) (by omega) a0.1 a0.2
    simp only [nm]; rw [this]; omega
  have n2 : nm bs 2 = at' bs 0 * 256 + at' bs 1 := by
    have := or_step (at' bs 0) (at' bs 1) (by omega) (by omega) a1.1 a1.2
    rw [nm, n1, this]
  have n3 : nm bs 3 = (at' bs 0 * 256 + at' bs 1) * 256 + at' bs 2 := by
    have := or_step (at' bs 0 * 256 + at' bs 1) (at' bs 2) (by omega) (by omega) a2.1 a2.2
    rw [nm, n2, this]
  have n4 : nm bs 4 = ((at' bs 0 * 256 + at' bs 1) * 256 + at' bs 2) * 256 + at' bs 3 := by
    have := or_step ((at' bs 0 * 256 + at' bs 1) * 256 + at' bs 2) (at' bs 3) (by omega) (by omega) a3.1 a3.2
    rw [nm, n3, this]
  rw [n4]; unfold num4; omega
theorem num4_lt {bs : List Int} (h : InB bs) : num4 bs < 4294967296 := by
  have a0 := at_range h 0; have a1 := at_range h 1; have a2 := at_range h 2; have a3 := at_range h 3
  unfold num4; omega
theorem flat_succ (F : Nat → List Int) (a k : Nat) : flat F a (k + 1) = flat F a k ++ F (a + k) := by simp [flat, List.range_succ]
theorem flat_len {F : Nat → List Int} {n : Nat} (hF : ∀ i, i < n → (F i).length = 64) (a : Nat) : ∀ k, a + k ≤ n → (flat F a k).length = 64 * k
  | 0, _ => rfl
  | k + 1, h => by rw [flat_succ, List.length_append, flat_len hF a k (by omega), hF _ (by omega)]; omega

/-! ### An append to a slice that is full, or one's own -/
def Grow (w : World) (base : Nat) (v : Value) (xs : List Value) : Prop :=
  w.ownsRow base 5 1 v xs.length xs ∨ ∃ b o, v = .slice (some ⟨b, o, none⟩) xs.length xs.length ∧ Rw w v xs
theorem Grow.rw {w : World} {base : Nat} {v : Value} {xs : List Value} (h : Grow w base v xs) : Rw w v xs := by
  rcases h with h | ⟨_, _, _, h⟩
  · exact Rw.of_own h
  · exact h
theorem run_appendG {P : Program} {w : World} {base : Nat} {v y : Value} {xs ys : List Value} {t ty : TypeId} {z : Value} (he : elem1 P t = some (5, z, 1)) (hg : Grow w base v xs) (hx : Rw w y ys) (h1 : ∀ u ∈ ys, u.oneCell' = true) (hne : ys ≠ [])
    (hlen : xs.length + ys.length ≤ 1099511627776) (hbase : base ≤ w.heap.size) :
    ∃ v' w', (Builtin.append_ #[t, t] ty #[v, y]).run P w = .ok v' w' ∧ w'.ownsRow base 5 1 v' (xs ++ ys).length (xs ++ ys) ∧ Upto base w w' := by
  have hmx := max_big
  rcases hg with hown | ⟨b, o, rfl, hr⟩
  · obtain ⟨v', w', hr, ha⟩ := run_append1 t ty he hown hx h1 (by omega) (by omega) hbase
    exact ⟨v', w', hr, ha.own, Upto.of ha.chg (fun k hk => own_new hown k hk)⟩
  · obtain ⟨hu, i, hi, hz, hsz, hby, hzs⟩ := elem1_spec he
    obtain ⟨a, cap, rfl, hlc, hm, hcells⟩ := hx
    have hpos : 0 < ys.length := List.length_pos_iff.2 hne
    cases a with
    | none =>
      cases ys with
      | nil => exact absurd rfl hne
      | cons y ys => obtain ⟨b, o, hab, _⟩ := hcells 0 y rfl; cases hab
    | some a =>
      have hx' : Rw w (.slice (some a) ys.length cap) ys := ⟨_, cap, rfl, hlc, hm, hcells⟩
      have hr2 := run_append_grow (P := P) w t ty 5 i z hu hi hz ⟨b, o, none⟩ xs.length xs.length xs (by rw [hsz]; omega) hr.source a ys.length cap ys (by rw [hsz]; omega) hx'.source (by omega) (by omega) (growslice_fits (by omega) (by rw [hby]; omega))
      refine ⟨_, _, hr2, ?_, ⟨rfl, rfl, rfl, by simp, fun k hk _ => Go.heap_alloc_old w.drew _ (r := k) hk⟩⟩
      have hge := grownCap_ge w (xs.length + ys.length) xs.length 5
      have hcm : grownCap w (xs.length + ys.length) xs.length 5 ≤ maxLen := grownCap_le_maxLen w _ _ 5 (by omega)
      refine ⟨by simp, .inr ⟨w.heap.size, _, _, by rw [List.length_append], hbase, Go.heap_alloc_new w.drew _, by simpa using hge, hcm, ?_, ?_⟩⟩
      · simp only [Array.size_append, List.size_toArray, size_zeroCells, hzs]
        omega
      · rw [Nat.mul_one]
        simp only [Array.toList_append, ← List.append_assoc]
        rw [List.take_append_of_le_length (by simp)]
        simp only [List.length_append]
        rw [← List.length_append, List.take_length]
theorem L_appendG {P : Program} {ops : Array Oper} {N : Fr → World → Prop} {f : Fr} {w : World} {l : List Oper} {dst : Tmp} {ps : String} {af : Array Edge} {gd : Option (Nat × Bool)} {ty t : TypeId} {s x : Operand}
    {base : Nat} {z v y : Value} {xs ys : List Value} (he : elem1 P t = some (5, z, 1)) (hw : Region.wanted ⟨some dst, .call ⟨.builtin .append, #[s, x], #[t, t]⟩, ty, ps, af, gd⟩ (yieldedF ops f) = true)
    (hs : ev f s = v) (hy : ev f x = y) (hg : Grow w base v xs) (hx : Rw w y ys) (h1 : ∀ u ∈ ys, u.oneCell' = true) (hne : ys ≠ [])
    (hlen : xs.length + ys.length ≤ 1099511627776) (hbase : base ≤ w.heap.size)
    (h : ∀ v' w', w'.ownsRow base 5 1 v' (xs ++ ys).length (xs ++ ys) → Upto base w w' → L P ops false N l (upd f dst v') w') :
    L P ops false N (⟨some dst, .call ⟨.builtin .append, #[s, x], #[t, t]⟩, ty, ps, af, gd⟩ :: l) f w := by
  obtain ⟨v', w', hr, ho, hu⟩ := run_appendG (ty := ty) he hg hx h1 hne hlen hbase
  refine L_new hw (x_builtin (xs := [s, x]) (r := [v, y]) (by simp [hs, hy]) _ rfl ?_) (h v' w' ho hu)
  simp only [builtin, Sem.run_bind, hr, Result.andThen_ok, Sem.run_pure]

theorem Dk.upto {w w' : World} {B bd bs bm n : Nat} {S : Nat → List Int} {D : Nat → Option (List Int)} (h : Dk w bd bs bm n S D) (hc : Upto B w w') (h1 : bd < B) (h2 : bs < B) (h3 : bm < B) : Dk w' bd bs bm n S D := by
  obtain ⟨hd, ⟨syn, hl, hs, hS⟩, ⟨es, clock, hg, hm, he, hD⟩⟩ := h
  exact ⟨hc.at hd h1, ⟨syn, hl, hc.at hs h2, hS⟩, ⟨es, clock, hg, hc.at hm h3, he, hD⟩⟩
theorem Dk.lt {w : World} {bd bs bm n : Nat} {S : Nat → List Int} {D : Nat → Option (List Int)} (h : Dk w bd bs bm n S D) : bd < w.heap.size ∧ bs < w.heap.size ∧ bm < w.heap.size := by
  obtain ⟨hd, ⟨syn, hl, hs, hS⟩, ⟨es, clock, hg, hm, he, hD⟩⟩ := h
  exact ⟨lt_of_at hd, lt_of_at hs, lt_of_at hm⟩

/-- A log: its disk, how many records, how many sectors. -/
def Lg (w : World) (bl bd k u : Nat) : Prop := w.heap[bl]? = some (.cells #[ptr bd 0, i64 (k : Nat), i64 (u : Nat)] 50 (0, 0))
end Go.Proofs.Ytinoebjhcmeppaa
