/- The walk of the program's (*disk.Disk).Sync. -/
import Derived.Test.YtinoebjhcmeppaaDisk
namespace Go.Proofs.Ytinoebjhcmeppaa
open E Sha
set_option maxRecDepth 100000
set_option maxHeartbeats 2000000

/-- What is synced when the loop has had the entries of 'seen'. -/
def app (es : List Ent) (seen : Array Nat) (S : Nat → List Int) (i : Nat) : List Int :=
  match es.find? (·.1 == i) with
  | some x => if seen.contains x.2.2 then x.2.1 else S i
  | none => S i
theorem find_key {es : List Ent} (hn : (es.map (·.1)).Nodup) {x : Ent} (hx : x ∈ es) : es.find? (·.1 == x.1) = some x := by
  induction es with
  | nil => cases hx
  | cons y ys ih =>
    have hn' := List.nodup_cons.1 (show (y.1 :: ys.map (·.1)).Nodup from hn)
    rcases List.mem_cons.1 hx with rfl | hm
    · simp
    · have : (y.1 == x.1) = false := by
        cases hc : y.1 == x.1 with
        | false => rfl
        | true => exact absurd (by rw [beq_iff_eq.1 hc]; exact List.mem_map.2 ⟨x, hm, rfl⟩) hn'.1
      rw [List.find?_cons, this]
      exact ih hn'.2 hm
theorem app_push {es : List Ent} {clock : Nat} (hg : Good es clock) {seen : Array Nat} {S : Nat → List Int} {x : Ent} (hx : x ∈ es) (i : Nat) :
    app es (seen.push x.2.2) S i = if i = x.1 then x.2.1 else app es seen S i := by
  unfold app
  by_cases e : i = x.1
  · subst e
    rw [find_key hg.key hx, if_pos rfl]
    simp
  · rw [if_neg e]
    cases hf : es.find? (·.1 == i) with
    | none => rfl
    | some y =>
      have h1 := List.find?_some hf
      have h2 := List.mem_of_find?_eq_some hf
      simp at h1
      have hne : ¬ y.2.2 = x.2.2 := by
        intro hb
        have hnd := hg.born
        have : ∀ (l : List Ent), (l.map (·.2.2)).Nodup → x ∈ l → y ∈ l → y.2.2 = x.2.2 → y = x := by
          intro l
          induction l with
          | nil => intro _ h; cases h
          | cons z zs ih =>
            intro hn hx hy hxy
            have hn' := List.nodup_cons.1 (show (z.2.2 :: zs.map (·.2.2)).Nodup from hn)
            rcases List.mem_cons.1 hx with rfl | hx'
            · rcases List.mem_cons.1 hy with rfl | hy'
              · rfl
              · exact absurd (List.mem_map.2 ⟨y, hy', hxy⟩) hn'.1
            · rcases List.mem_cons.1 hy with rfl | hy'
              · exact absurd (List.mem_map.2 ⟨x, hx', hxy.symm⟩) hn'.1
              · exact ih hn'.2 hx' hy' hxy
        have := this es hnd hx h2 hb
        subst this
        exact e h1.symm
      simp only [Array.contains_push]
      have : (y.2.2 == x.2.2) = false := by simpa using hne
      rw [this, Bool.or_false]
theorem left_push {es : List Ent} {clock : Nat} (seen : Array Nat) {x : Ent} (hx : x ∈ leftE es seen) (_ : Good es clock) : (leftE es (seen.push x.2.2)).length < (leftE es seen).length := by
  have h1 := List.mem_filter.1 hx
  exact filter_lt (fun x : Ent => !seen.contains x.2.2) (fun y => !(seen.push x.2.2).contains y.2.2) (fun y hy => by
    rw [Array.contains_push] at hy
    cases hc : seen.contains y.2.2 with
    | false => rfl
    | true => rw [hc, Bool.true_or] at hy; exact absurd hy (by decide)) x h1.2 (by rw [Array.contains_push, beq_self_eq_true, Bool.or_true]; rfl) es h1.1
theorem app_none (es : List Ent) (S : Nat → List Int) (i : Nat) : app es #[] S i = S i := by
  unfold app
  cases es.find? (·.1 == i) with
  | none => rfl
  | some x => simp
theorem app_all {es : List Ent} {seen : Array Nat} {S : Nat → List Int} (h : leftE es seen = []) (i : Nat) : app es seen S i = (getE es i).getD (S i) := by
  unfold app getE
  cases hf : es.find? (·.1 == i) with
  | none => rfl
  | some x =>
    have h2 := List.mem_of_find?_eq_some hf
    have : seen.contains x.2.2 = true := by
      cases hc : seen.contains x.2.2 with
      | true => rfl
      | false =>
        have : x ∈ leftE es seen := List.mem_filter.2 ⟨h2, by rw [hc]; rfl⟩
        rw [h] at this; cases this
    simp only [this, if_true]; rfl

section
variable {w : World} {bd bs bm n : Nat} {S : Nat → List Int} {D : Nat → Option (List Int)}
theorem f28_sync (h : Dk w bd bs bm n S D) :
    Calls Try.prog 28 #[ptr bd 0] w (Rv fun _ w' => Dk w' bd bs bm n (cur S D) (fun _ => none) ∧ Chg [bs, bm] w w') := by
  obtain ⟨syn0, hl0, hs0, hS0⟩ := h.syn
  obtain ⟨es, clock, hg, hm, he, hD⟩ := h.dirty
  have hds := h.ds
  have hdm := h.dm
  have hsm := h.sm
  refine calls_W (args := [ptr bd 0]) Try.func28 rfl Try.ntmps28 rfl ?_
  refine W_seq ?_
  refine W_seq ?_
  refine W_region rfl ?_
  refine L_val rfl (x_move (by conv => lhs; whnf)) ?_
  refine L_val rfl (x_eqlNil pt24 rfl rfl) ?_
  refine L_nil ?_
  refine W_false rfl ?_
  refine W_skip ?_
  refine W_seq ?_
  refine W_seq ?_
  refine W_region rfl ?_
  refine L_val rfl (x_move (by conv => lhs; whnf)) ?_
  refine L_val rfl (x_nilCheck rfl) ?_
  refine L_val rfl (x_field fo_48_1 rfl) ?_
  refine L_val rfl (x_load sc46 rfl (cell_at (v := .map (some bm)) h.desc rfl)) ?_
  refine L_range mp46 rfl rfl hm (fun w1 hb1 hc1 hs1 => ?_)
  refine L_nil ?_
  refine W_block ?_
  have hbm := lt_of_at hm
  have hbs := lt_of_at hs0
  have hbd := lt_of_at h.desc
  refine W_loop (fun m f w2 => ∃ seen c0 syn, m = (leftE es seen).length ∧ Frm f [(0, ptr bd 0), (10, ptr w.heap.size 0)] ∧ w2.heap[w.heap.size]? = some (.mapIter (some bm) clock seen c0) ∧ clock ≤ c0 ∧
      syn.length = 64 * n ∧ w2.heap[bs]? = some (.cells (L8 syn) 79 (0, 0)) ∧ (∀ i, i < n → secOf syn i = app es seen S i) ∧ Chg [bs] w w2) (leftE es #[]).length
    ⟨#[], clock, syn0, rfl, ⟨rfl, rfl, trivial⟩, hb1, Nat.le_refl _, hl0, hc1.at hs0 (by simp), fun i hi => by rw [app_none]; exact hS0 i hi, hc1.mono (by simp)⟩ (fun m f w2 hI => ?_)
  obtain ⟨seen, c0, syn, rfl, hF, hi2, hc0, hl, hs2, hS2, hc2⟩ := hI
  obtain ⟨g, rfl⟩ := hF.eta
  have hm2 := hc2.at hm (by simp; omega)
  refine W_seq ?_
  refine W_region rfl ?_
  refine L_next rfl rfl hm2 hi2 hg.old hc0 (fun hno => ?_) (fun x hx w3 hi3 hc3 => ?_)
  · refine L_val rfl (x_extract rfl rfl) ?_
    refine L_nil ?_
    refine W_seq ?_
    refine W_false rfl ?_
    refine W_exit ?_
    refine W_region rfl ?_
    refine L_val rfl (x_move (by conv => lhs; whnf)) ?_
    refine L_val rfl (x_nilCheck rfl) ?_
    refine L_val rfl (x_field fo_48_1 rfl) ?_
    refine L_val rfl (x_load sc46 rfl (cell_at (v := .map (some bm)) (hc2.at h.desc (by simpa using hds)) rfl)) ?_
    refine L_clear mp46 rfl rfl hm2 (fun w4 hb4 hc4 => ?_)
    refine L_nil ?_
    have hc04 : Chg [bs, bm] w w4 := (hc2.mono (by simp)).same (hc4.mono (by simp))
    refine res0 rfl ⟨⟨hc04.at h.desc (by simp; omega), ⟨syn, hl, hc4.at hs2 (by simpa using hsm), fun i hi => ?_⟩, ⟨[], clock, Good.nil _, hb4, by simp, fun _ => rfl⟩⟩, hc04⟩
    rw [hS2 i hi, app_all hno, hD]; rfl
  · have hxe : x ∈ es := (List.mem_filter.1 hx).1
    obtain ⟨hxn, hxl⟩ := he x hxe
    refine L_val rfl (x_extract rfl rfl) ?_
    refine L_nil ?_
    refine W_seq ?_
    refine W_true rfl ?_
    refine W_skip ?_
    refine W_block ?_
    refine W_seq ?_
    have hsz := lt_of_at hi2
    refine W_region rfl ?_
    refine L_val rfl (x_entry rfl (hc3.at hm2 (by simp; omega)) hi3 hxe hg.born) ?_
    refine L_val rfl (x_extract rfl rfl) ?_
    refine L_val rfl (x_extract rfl rfl) ?_
    refine L_alloc zero79 rfl (fun w4 hb4 hc4 hs4 => ?_)
    refine L_val rfl (x_assign (by conv => lhs; whnf)) ?_
    refine L_storeAll (cs := L8 x.2.1) sz79 rfl rfl rfl (by rw [L8_size]; exact hxl) (L8_one _) hb4 rfl (fun w5 hb5 hc5 => ?_)
    refine L_nil ?_
    have hsz3 := hc3.size
    have h25 : Chg [w.heap.size] w2 w5 := (hc3.trans hc4 (by simp)).trans hc5 (by simp; omega)
    have hs5 := h25.at hs2 (by simp; omega)
    have hd5 := h25.at (hc2.at h.desc (by simpa using hds)) (by simp; omega)
    refine W_tail 7 mixed (by kernel_rfl) rfl ?_
    refine L_val rfl (x_move (by conv => lhs; whnf)) ?_
    refine L_val rfl (x_nilCheck rfl) ?_
    refine L_val rfl (x_field fo_48_0 rfl) ?_
    refine L_val rfl (x_load sc45 rfl (cell_at (v := .slice (some ⟨bs, 0, none⟩) n n) hd5 rfl)) ?_
    refine L_val rfl (x_move (by conv => lhs; whnf)) ?_
    refine L_val rfl (x_loadRow ag79 rfl hb5 (by rw [L8_size]; exact hxl)) ?_
    refine L_val rfl (x_index el45 (i := x.1) rfl rfl hxn) ?_
    refine L_nil ?_
    refine L_storeAgg (cs := L8 x.2.1) sz79 rfl rfl rfl (by rw [L8_size]; exact hxl) (L8_one _) hs5 (by rw [L8_size, hl]; omega) (fun w6 hb6 hc6 => ?_)
    refine L_nil ?_
    rw [L8_splice, show 0 + x.1 * 64 = 64 * x.1 by omega] at hb6
    have h06 : Chg [bs] w w6 := ((hc2.trans h25 (by simp)).d).same hc6
    have hi6 : w6.heap[w.heap.size]? = some (.mapIter (some bm) clock (seen.push x.2.2) clock) := by
      have hlt3 := lt_of_at hi3
      exact hc6.at ((Chg.drew [] _).at (hc5.at (hc4.at hi3 (by simp)) (by simp; omega)) (by simp)) (by simp; omega)
    refine ⟨_, left_push seen hx hg, seen.push x.2.2, clock, _, rfl, ⟨rfl, rfl, trivial⟩, hi6, Nat.le_refl _, ?_, hb6, fun i hi => ?_, h06⟩
    · simp [hl, hxl]; omega
    · rw [secOf_put hl hxl hxn, app_push hg hxe]
      by_cases e : i = x.1
      · rw [if_pos e, if_pos e]
      · rw [if_neg e, if_neg e]; exact hS2 i hi
end
end Go.Proofs.Ytinoebjhcmeppaa
