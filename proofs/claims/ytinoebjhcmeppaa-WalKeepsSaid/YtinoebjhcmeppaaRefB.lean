/- The walks of the document's small functions: Same, sectors, Num, Cat. -/
import Derived.Test.YtinoebjhcmeppaaRefA
import Derived.Laws.BytesArg
namespace Go.Proofs.Ytinoebjhcmeppaa
open E Sha
set_option maxRecDepth 100000
set_option maxHeartbeats 4000000

theorem us9 : Try.prog.underlying 9 = some .string := by kernel_rfl

theorem run_str {w : World} {v : Value} {xs : List Int} (hx : Bt w v xs) : (convert 37 9 v).run Try.prog w = .ok (.string (strOfNums xs)) w := by
  have h37 := (elemOfT_spec el37).1
  have h5 := kindOf_spec kd5
  obtain ⟨a, cap, rfl, hl, hm, hc⟩ := hx
  rw [List.length_map] at hl ⊢
  cases a with
  | none =>
    have h0 : xs = [] := by
      cases xs with
      | nil => rfl
      | cons x xs => obtain ⟨b, o, hb, _⟩ := hc 0 (u8 x) rfl; cases hb
    subst h0
    exact run_convert_bytes_nil w 37 5 h37 h5 _ _ 9 us9
  | some a =>
    by_cases h0 : xs = []
    · subst h0
      rw [run_convert_bytes_string w 37 9 5 _ _ _ h37 h5 us9]
      have := run_bytesToString (P := Try.prog) w a 0 cap [] rfl
      exact this
    · have hne : 0 < xs.length := List.length_pos_iff.2 h0
      obtain ⟨b, o, hb, _⟩ := hc 0 (u8 xs[0]) (by simp [hne])
      cases hb
      refine run_convert_bytes_arg w 37 5 h37 h5 b o xs.length cap xs rfl (fun i hi => ?_) 9 us9
      obtain ⟨b', o', hb', hcell⟩ := hc i (u8 xs[i]) (by simp [hi])
      cases hb'
      simpa [hi] using hcell
theorem ofNat_inj {a b : Int} (ha : 0 ≤ a ∧ a ≤ 255) (hb : 0 ≤ b ∧ b ≤ 255) (h : UInt8.ofNat a.toNat = UInt8.ofNat b.toNat) : a = b := by
  have h2 := congrArg UInt8.toNat h
  simp only [UInt8.toNat_ofNat'] at h2
  omega
theorem map_inj {xs ys : List Int} (hx : InB xs) (hy : InB ys) (h : (xs.map fun n => UInt8.ofNat n.toNat) = ys.map fun n => UInt8.ofNat n.toNat) : xs = ys := by
  induction xs generalizing ys with
  | nil => cases ys with
    | nil => rfl
    | cons y ys => simp at h
  | cons x xs ih => cases ys with
    | nil => simp at h
    | cons y ys =>
      simp only [List.map_cons, List.cons.injEq] at h
      rw [ofNat_inj (hx x (by simp)) (hy y (by simp)) h.1, ih (fun z hz => hx z (by simp [hz])) (fun z hz => hy z (by simp [hz])) h.2]
theorem toList_str (xs : List Int) : (strOfNums xs).data.toList = xs.map fun n => UInt8.ofNat n.toNat := by simp [strOfNums]
theorem str_inj {xs ys : List Int} (hx : InB xs) (hy : InB ys) (h : strOfNums xs = strOfNums ys) : xs = ys :=
  map_inj hx hy (by rw [← toList_str, ← toList_str, h])
theorem bytes_eq {a b : ByteArray} (h : a.toList = b.toList) : a = b := by
  rw [Go.ByteArray.toList_eq a, Go.ByteArray.toList_eq b] at h
  exact ByteArray.ext (Array.toList_inj.mp h)
theorem x_eqlS {P : Program} {f : Fr} {w : World} {dst : Option Tmp} {ps : String} {af : Array Edge} {gd : Option (Nat × Bool)} {ty t u : TypeId} {x y : Operand} {xs ys : List Int} (hx : ev f x = .string (strOfNums xs)) (hy : ev f y = .string (strOfNums ys)) (h1 : InB xs) (h2 : InB ys) :
    (execOp (ev f) ⟨dst, .binOp .eql t x y u, ty, ps, af, gd⟩).run P w = .ok (.value (.bool (decide (xs = ys)))) w := by
  have e : ((strOfNums xs).toList == (strOfNums ys).toList) = decide (xs = ys) := by
    by_cases h : xs = ys
    · subst h; simp
    · simp only [h, decide_false]
      refine beq_eq_false_iff_ne.2 (fun he => h (str_inj h1 h2 (bytes_eq he)))
  simp [go_sem, execOp, eqGuard, hx, hy, e]
theorem f30_same {w : World} {x y : Value} {xs ys : List Int} (hx : Bt w x xs) (hy : Bt w y ys) (h1 : InB xs) (h2 : InB ys) :
    Calls Try.prog 30 #[x, y] w (fun e w' => e = .returned (.bool (decide (xs = ys))) ∧ w' = w) := by
  refine (calls_W (args := [x, y]) (R := fun v w' => v = .bool (decide (xs = ys)) ∧ w' = w) Try.func30 rfl Try.ntmps30 rfl ?_).mono (fun e w' ⟨v, he, hv, hw⟩ => ⟨hv ▸ he, hw⟩)
  refine W_seq ?_
  refine W_region rfl ?_
  refine L_val rfl (x_assign (by conv => lhs; whnf)) ?_
  refine L_nil ?_
  refine W_seq ?_
  refine W_region rfl ?_
  refine L_val rfl (x_move (v := x) rfl) ?_
  refine L_val rfl (x_convR rfl (run_str hx)) ?_
  refine L_val rfl (x_move (v := y) rfl) ?_
  refine L_val rfl (x_convR rfl (run_str hy)) ?_
  refine L_val rfl (x_eqlS rfl rfl h1 h2) ?_
  refine L_val rfl (x_assign (by conv => lhs; whnf)) ?_
  refine L_nil ?_
  refine W_ret ?_
  exact res1 rfl rfl ⟨rfl, rfl⟩

theorem f32_sectors {w : World} {m : Nat} (hm : m ≤ 1099511627776) : Calls Try.prog 32 #[i64 (m : Nat)] w (fun e w' => e = .returned (i64 ((m + 75) / 64 : Nat)) ∧ w' = w) := by
  refine (calls_W (args := [i64 (m : Nat)]) (R := fun v w' => v = i64 ((m + 75) / 64 : Nat) ∧ w' = w) Try.func32 rfl Try.ntmps32 rfl ?_).mono (fun e w' ⟨v, he, hv, hw⟩ => ⟨hv ▸ he, hw⟩)
  refine W_seq ?_
  refine W_region rfl ?_
  refine L_val rfl (x_assign (by conv => lhs; whnf)) ?_
  refine L_nil ?_
  refine W_seq ?_
  refine W_region rfl ?_
  refine L_val rfl (x_move (by conv => lhs; whnf)) ?_
  refine L_val rfl (x_add rfl rfl (wr64 (c := ((m + 12 : Nat) : Int)) (by omega) (by omega) (by omega))) ?_
  refine L_val rfl (x_add rfl rfl (wr64 (c := (((m + 12) + 64 : Nat) : Int)) (by omega) (by omega) (by omega))) ?_
  refine L_val rfl (x_sub rfl rfl (wr64 (c := ((m + 75 : Nat) : Int)) (by omega) (by omega) (by omega))) ?_
  refine L_val rfl (x_quo rfl rfl (by omega) (quo64 (c := (((m + 75) / 64 : Nat) : Int)) (by omega) (by omega) (by omega) (by omega))) ?_
  refine L_val rfl (x_assign (by conv => lhs; whnf)) ?_
  refine L_nil ?_
  refine W_ret ?_
  exact res1 rfl rfl ⟨rfl, rfl⟩

theorem f50_num {w : World} (x : Int) :
    Calls Try.prog 50 #[u64 x, i64 4] w (Rv fun v w' => OwnB w w' v (nb x 4) ∧ Chg [] w w') := by
  have hmx := max_big
  refine calls_W (args := [u64 x, i64 4]) Try.func50 rfl Try.ntmps50 rfl ?_
  refine W_seq ?_
  refine W_region rfl ?_
  refine L_val rfl (x_assign (by conv => lhs; whnf)) ?_
  refine L_nil ?_
  refine W_seq ?_
  refine W_region rfl ?_
  refine L_val rfl (x_assign (by conv => lhs; whnf)) ?_
  refine L_nil ?_
  refine W_seq ?_
  refine W_seq ?_
  refine W_region rfl ?_
  refine L_val rfl (x_move (by conv => lhs; whnf)) ?_
  refine L_val rfl (x_lss (r := false) rfl rfl (by decide)) ?_
  refine L_val rfl (x_move (by conv => lhs; whnf)) ?_
  refine L_val rfl (x_move (by conv => lhs; whnf)) ?_
  refine L_val rfl (x_gtr (r := false) rfl rfl (by decide)) ?_
  refine L_val rfl (x_pick_f rfl (by conv => lhs; whnf)) ?_
  refine L_nil ?_
  refine W_false rfl ?_
  refine W_skip ?_
  refine W_seq ?_
  refine W_seq ?_
  refine W_region rfl ?_
  refine L_val rfl (x_move (by conv => lhs; whnf)) ?_
  refine L_val rfl (x_sub rfl rfl (wr64 (c := 3 - ((0 : Nat) : Int)) (by omega) (by omega) (by omega))) ?_
  refine L_val rfl (x_assign (by conv => lhs; whnf)) ?_
  refine L_nil ?_
  refine W_block ?_
  refine W_loop (fun m f w1 => ∃ j v, j ≤ 4 ∧ m = 4 - j ∧ Frm f [(0, u64 x), (5, v), (6, i64 (3 - (j : Nat)))] ∧ OwnB w w1 v (nb x j) ∧ Chg [] w w1) 4
    ⟨0, .slice none 0 0, by omega, rfl, ⟨rfl, rfl, rfl, trivial⟩, World.ownsRow_nil _ _ _ _, Chg.refl _ _⟩ (fun m f w1 hI => ?_)
  obtain ⟨j, v, hj, rfl, hF, ho, hc1⟩ := hI
  obtain ⟨g, rfl⟩ := hF.eta
  refine W_seq ?_
  refine W_seq ?_
  refine W_region rfl ?_
  refine L_val rfl (x_move (by conv => lhs; whnf)) ?_
  refine L_val rfl (x_geq rfl rfl rfl) ?_
  refine L_nil ?_
  by_cases hcond : j < 4
  · refine W_true (congrArg Value.bool (decide_eq_true (by omega))) ?_
    refine W_skip ?_
    refine W_seq ?_
    refine W_block ?_
    refine W_region rfl ?_
    refine L_val rfl (x_move (v := v) rfl) ?_
    refine L_val rfl (x_move (by conv => lhs; whnf)) ?_
    refine L_val rfl (x_move (by conv => lhs; whnf)) ?_
    refine L_val rfl (x_mul rfl rfl (wr64 (c := ((24 - 8 * j : Nat) : Int)) (by omega) (by omega) (by omega))) ?_
    refine L_val rfl (x_conv kd3 kd36 rfl (wru64 (c := ((24 - 8 * j : Nat) : Int)) (by omega) (by omega) (by omega))) ?_
    refine L_val rfl (x_shr (c := x.fdiv (2 ^ (24 - 8 * j))) rfl rfl (by omega) (by rw [show min ((24 - 8 * j : Nat) : Int).toNat IntKind.u64.bits = 24 - 8 * j by simp [IntKind.bits]; omega])) ?_
    refine L_val rfl (x_conv kd73 kd5 rfl rfl) ?_
    refine L_one e1_37 rfl (by conv => lhs; whnf) rfl (fun w2 hb2 hc2 hs2 => ?_)
    refine L_append e1_37 rfl rfl rfl (own_chg ho hc2 (by simp)) (Rw.one hb2) (fun u hu => by rw [List.mem_singleton.1 hu]; rfl) (by simp [nb]; omega) (by simp [nb]; omega) (by have := hc1.size; omega) (fun v' w3 ha => ?_)
    refine L_val rfl (x_assign (v := v') rfl) ?_
    refine L_nil ?_
    refine W_region rfl ?_
    refine L_val rfl (x_move (by conv => lhs; whnf)) ?_
    refine L_val rfl (x_sub rfl rfl (wr64 (c := 3 - ((j + 1 : Nat) : Int)) (by omega) (by omega) (by omega))) ?_
    refine L_val rfl (x_assign (by conv => lhs; whnf)) ?_
    refine L_nil ?_
    have ho1 := ha.own
    have he : (List.map u8 (nb x j) ++ [Value.int IntKind.u8 (IntKind.u8.wrap (x.fdiv (2 ^ (24 - 8 * j))))]) = List.map u8 (nb x (j + 1)) := by rw [nb_succ]; simp
    rw [he, List.length_map] at ho1
    exact ⟨4 - (j + 1), by omega, j + 1, v', by omega, rfl, ⟨rfl, rfl, rfl, trivial⟩, ho1, (hc1.trans0 hc2).out ha.chg (fun k hk => own_new ho k hk)⟩
  · refine W_false (congrArg Value.bool (decide_eq_false (by omega))) ?_
    refine W_exit ?_
    have hj4 : j = 4 := by omega
    subst hj4
    refine W_seq ?_
    refine W_region rfl ?_
    refine L_val rfl (x_move (v := v) rfl) ?_
    refine L_val rfl (x_assign (v := v) rfl) ?_
    refine L_nil ?_
    refine W_ret ?_
    exact res1 rfl rfl ⟨ho, hc1⟩

/-- Slices that hold these bytes. -/
def Rs (w : World) : List Value → List (List Int) → Prop
  | [], [] => True
  | v :: vs, x :: xs => Bt w v x ∧ Rs w vs xs
  | _, _ => False
theorem Rs.len {w : World} : ∀ {vs : List Value} {xs : List (List Int)}, Rs w vs xs → vs.length = xs.length
  | [], [], _ => rfl
  | _ :: _, _ :: _, h => by simp [Rs.len h.2]
  | [], _ :: _, h => h.elim
  | _ :: _, [], h => h.elim
theorem Rs.chg {w w' : World} {U : List Nat} (hc : Chg U w w') : ∀ {vs : List Value} {xs : List (List Int)}, (∀ v ∈ vs, ∀ b, v.ownBlock = some b → b ∉ U) → Rs w vs xs → Rs w' vs xs
  | [], [], _, _ => trivial
  | v :: _, _ :: _, hU, h => ⟨h.1.chg hc (hU v (by simp)), Rs.chg hc (fun u hu => hU u (by simp [hu])) h.2⟩
  | [], _ :: _, _, h => h.elim
  | _ :: _, [], _, h => h.elim
theorem Rs.chg0 {w w' : World} {vs : List Value} {xs : List (List Int)} (h : Rs w vs xs) (hc : Chg [] w w') : Rs w' vs xs := h.chg hc (by simp)
theorem Rs.get {w : World} : ∀ {vs : List Value} {xs : List (List Int)} {i : Nat}, Rs w vs xs → i < xs.length → ∃ v x, vs[i]? = some v ∧ xs[i]? = some x ∧ Bt w v x
  | v :: _, x :: _, 0, h, _ => ⟨v, x, rfl, rfl, h.1⟩
  | _ :: _, _ :: _, i + 1, h, hi => by simpa using Rs.get (i := i) h.2 (by simpa using hi)
  | [], _ :: _, _, h, _ => h.elim
  | _ :: _, [], _, h, _ => h.elim
theorem Rs.add {w : World} {v : Value} {x : List Int} (hv : Bt w v x) : ∀ {vs : List Value} {xs : List (List Int)}, Rs w vs xs → Rs w (vs ++ [v]) (xs ++ [x])
  | [], [], _ => ⟨hv, trivial⟩
  | _ :: _, _ :: _, h => ⟨h.1, Rs.add hv h.2⟩
  | [], _ :: _, h => h.elim
  | _ :: _, [], h => h.elim
theorem Rs.take {w : World} : ∀ {vs : List Value} {xs : List (List Int)} (n : Nat), Rs w vs xs → Rs w (vs.take n) (xs.take n)
  | [], [], n, _ => by simp [Rs]
  | _ :: _, _ :: _, 0, _ => trivial
  | _ :: _, _ :: _, n + 1, h => ⟨h.1, Rs.take n h.2⟩
  | [], _ :: _, _, h => h.elim
  | _ :: _, [], _, h => h.elim
theorem Recs.rs {w : World} {base : Nat} : ∀ {vs : List Value} {xs : List (List Int)}, Recs w base vs xs → Rs w vs xs
  | [], [], _ => trivial
  | _ :: _, _ :: _, h => ⟨h.1.1, Recs.rs h.2⟩
  | [], _ :: _, h => h.elim
  | _ :: _, [], h => h.elim
/-- A row of slices, somewhere. -/
theorem rw_at {w : World} {a : Option Addr} {n cap i : Nat} {vs : List Value} {v : Value} (h : Rw w (.slice a n cap) vs) (hv : vs[i]? = some v) : ∃ b o, a = some ⟨b, o, none⟩ ∧ w.cell? ⟨b, o + i * 1, none⟩ = some v := by
  obtain ⟨a', cap', e, _, _, h3⟩ := h
  simp only [Value.slice.injEq] at e
  obtain ⟨rfl, _, _⟩ := e
  obtain ⟨b, o, hb, hc⟩ := h3 i v hv
  exact ⟨b, o, hb, by rw [Nat.mul_one]; exact hc⟩

theorem f49_cat {w : World} {x : Value} {vs : List Value} {xs : List (List Int)} (hx : Rw w x vs) (hr : Rs w vs xs) (hlen : xs.flatten.length ≤ 549755813888) :
    Calls Try.prog 49 #[x] w (Rv fun v w' => OwnB w w' v xs.flatten ∧ Chg [] w w') := by
  have hmx := max_big
  have hmx2 : maxLen ≤ 9223372036854775807 := by decide
  obtain ⟨a, cap, rfl⟩ := hx.len
  have hl := hr.len
  have hcap : vs.length ≤ maxLen := by obtain ⟨_, _, hq, h1, h2, _⟩ := hx; simp only [Value.slice.injEq] at hq; omega
  refine calls_W (args := [.slice a vs.length cap]) Try.func49 rfl Try.ntmps49 rfl ?_
  refine W_seq ?_
  refine W_region rfl ?_
  refine L_val rfl (x_assign (by conv => lhs; whnf)) ?_
  refine L_nil ?_
  refine W_seq ?_
  refine W_region rfl ?_
  refine L_val rfl (x_assign (by conv => lhs; whnf)) ?_
  refine L_nil ?_
  refine W_seq ?_
  refine W_seq ?_
  refine W_region rfl ?_
  refine L_val rfl (x_assign (by conv => lhs; whnf)) ?_
  refine L_nil ?_
  refine W_block ?_
  refine W_loop (fun m f w1 => ∃ i v, i ≤ vs.length ∧ m = vs.length - i ∧ Frm f [(0, .slice a vs.length cap), (3, v), (4, i64 (i : Nat))] ∧ OwnB w w1 v (xs.take i).flatten ∧ Chg [] w w1) vs.length
    ⟨0, .slice none 0 0, by omega, rfl, ⟨rfl, rfl, rfl, trivial⟩, World.ownsRow_nil _ _ _ _, Chg.refl _ _⟩ (fun m f w1 hI => ?_)
  obtain ⟨i, v, hi, rfl, hF, ho, hc1⟩ := hI
  obtain ⟨g, rfl⟩ := hF.eta
  refine W_seq ?_
  refine W_seq ?_
  refine W_region rfl ?_
  refine L_val rfl (x_move (by conv => lhs; whnf)) ?_
  refine L_val rfl (x_move (by conv => lhs; whnf)) ?_
  refine L_val rfl (x_len el22 rfl) ?_
  refine L_val rfl (x_lss rfl rfl rfl) ?_
  refine L_nil ?_
  by_cases hcond : i < vs.length
  · refine W_true (congrArg Value.bool (decide_eq_true (by omega))) ?_
    refine W_skip ?_
    refine W_seq ?_
    refine W_block ?_
    obtain ⟨u, y, hu, hy, hb⟩ := (hr.chg0 hc1).get (i := i) (by omega)
    obtain ⟨b, o, rfl, hcell⟩ := rw_at (hx.chg0 hc1) hu
    have htk : (xs.take (i + 1)).flatten = (xs.take i).flatten ++ y := by rw [List.take_add_one, hy]; simp
    have hle : (xs.take (i + 1)).flatten.length ≤ xs.flatten.length := by
      have : xs.flatten = (xs.take (i + 1)).flatten ++ (xs.drop (i + 1)).flatten := by rw [← List.flatten_append, List.take_append_drop]
      rw [this, List.length_append]; omega
    rw [htk, List.length_append] at hle
    refine W_region rfl ?_
    refine L_val rfl (x_move (v := v) rfl) ?_
    refine L_val rfl (x_move (by conv => lhs; whnf)) ?_
    refine L_val rfl (x_move (by conv => lhs; whnf)) ?_
    refine L_val rfl (x_index el22 (i := i) rfl rfl (by omega)) ?_
    refine L_val rfl (x_load sc37 rfl hcell) ?_
    refine L_append e1_37 rfl rfl rfl ho hb (fun u hu => by simp only [List.mem_map] at hu; obtain ⟨z, _, rfl⟩ := hu; rfl) (by simp only [List.length_map]; omega) (by simp only [List.length_map]; omega) hc1.size (fun v' w3 ha => ?_)
    refine L_val rfl (x_assign (v := v') rfl) ?_
    refine L_nil ?_
    refine W_region rfl ?_
    refine L_val rfl (x_move (by conv => lhs; whnf)) ?_
    refine L_val rfl (x_add rfl rfl (wr64 (c := ((i + 1 : Nat) : Int)) (by omega) (by omega) (by omega))) ?_
    refine L_val rfl (x_assign (by conv => lhs; whnf)) ?_
    refine L_nil ?_
    have ho1 := ha.own
    rw [← List.map_append, List.length_map, ← htk] at ho1
    exact ⟨vs.length - (i + 1), by omega, i + 1, v', by omega, rfl, ⟨rfl, rfl, rfl, trivial⟩, ho1, hc1.out ha.chg (fun k hk => own_new ho k hk)⟩
  · refine W_false (congrArg Value.bool (decide_eq_false (by omega))) ?_
    refine W_exit ?_
    have hi2 : i = xs.length := by omega
    subst hi2
    rw [List.take_length] at ho
    refine W_seq ?_
    refine W_region rfl ?_
    refine L_val rfl (x_move (v := v) rfl) ?_
    refine L_val rfl (x_assign (v := v) rfl) ?_
    refine L_nil ?_
    refine W_ret ?_
    exact res1 rfl rfl ⟨ho, hc1⟩
end Go.Proofs.Ytinoebjhcmeppaa
