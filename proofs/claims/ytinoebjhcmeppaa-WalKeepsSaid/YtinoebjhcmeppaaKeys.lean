/- The walks of maps.Keys over a disk's dirty sectors, and of the function that it hands back. -/
import Derived.Test.YtinoebjhcmeppaaRng
import Derived.Test.YtinoebjhcmeppaaWalE
namespace Go.Proofs.Ytinoebjhcmeppaa
open E Sha
set_option maxRecDepth 100000
set_option maxHeartbeats 4000000

theorem f56_seq {b1 bm clock : Nat} {es : List Ent} {w0 : World} (hg : Good es clock) (h1 : w0.heap[b1]? = some (.cells #[.map (some bm)] 46 (0, 0))) (hm : w0.heap[bm]? = some (mobj es clock)) :
    SeqStopsK (FW none) 6 Try.prog 56 #[ptr b1 0] (fun j => #[i64 (j : Nat)]) KeepsWalks (fun xs => xs.Nodup ∧ ∀ i, i ∈ xs ↔ i ∈ es.map (·.1)) (fun _ => True) es.length w0 := by
  intro l J Jx W hb hJ hJx hround h0
  have hW1 : W.heap[b1]? = some (.cells #[.map (some bm)] 46 (0, 0)) := by rw [hb.block b1 (lt_of_at h1)]; exact h1
  have hWm : W.heap[bm]? = some (mobj es clock) := by rw [hb.block bm (lt_of_at hm)]; exact hm
  have hbm := lt_of_at hWm
  have key : CallsIn (FW none) 7 Try.prog 56 #[.func (.yield l) #[] #[], ptr b1 0] W (Rv fun _ W' => (∃ xs, (xs.Nodup ∧ ∀ i, i ∈ xs ↔ i ∈ es.map (·.1)) ∧ J xs W') ∨ (∃ pre, Jx pre W')) := by
    refine callsIn_Wf (args := [.func (.yield l) #[] #[], ptr b1 0]) Try.func56 rfl Try.ntmps56 rfl ?_
    refine Wf_seq ?_
    refine Wf_region rfl rfl ?_
    refine L_val rfl (x_load sc46 rfl (cell_at (v := .map (some bm)) hW1 rfl)) ?_
    refine L_range mp46 rfl rfl hWm (fun w1 hb1 hc1 hs1 => ?_)
    refine L_nil ?_
    refine Wf_block ?_
    have hJ1 : J [] w1 := hJ [] W w1 none h0 ⟨hc1.os, hc1.tape, hc1.output, hc1.size, fun k hk _ => hc1.block k hk (by simp)⟩ (fun r e => by cases e)
    refine Wf_loop (fun m f W1 => ∃ pre seen c0, m = (leftE es seen).length ∧ Frm f [(0, .func (.yield l) #[] #[]), (5, ptr W.heap.size 0)] ∧ W1.heap[W.heap.size]? = some (.mapIter (some bm) clock seen c0) ∧ clock ≤ c0 ∧
        W1.heap[bm]? = some (mobj es clock) ∧ pre.length + (leftE es seen).length ≤ es.length ∧ pre.Nodup ∧ (∀ i, i ∈ pre ↔ ∃ x ∈ es, x.1 = i ∧ seen.contains x.2.2 = true) ∧ J pre W1) (leftE es #[]).length
      ⟨[], #[], clock, rfl, ⟨rfl, rfl, trivial⟩, hb1, Nat.le_refl _, hc1.at hWm (by simp), by have := List.length_filter_le (fun x : Ent => !(#[] : Array Nat).contains x.2.2) es; simp only [leftE, List.length_nil]; omega, by simp, by simp, hJ1⟩ (fun m f W1 hI => ?_)
    obtain ⟨pre, seen, c0, rfl, hF, hi1, hc0, hm1, hlen, hnd, hmem, hJp⟩ := hI
    obtain ⟨g, rfl⟩ := hF.eta
    refine Wf_seq ?_
    refine Wf_region rfl rfl ?_
    refine L_next rfl rfl hm1 hi1 hg.old hc0 (fun hno => ?_) (fun x hx w3 hi3 hc3 => ?_)
    · refine L_val rfl (x_extract rfl rfl) ?_
      refine L_nil ?_
      refine Wf_seq ?_
      refine Wf_false rfl ?_
      refine Wf_exit ?_
      simp only [Nat.beq_refl, cond_true]
      refine res0 rfl (.inl ⟨pre, ⟨hnd, fun i => ?_⟩, hJp⟩)
      rw [hmem i]
      constructor
      · rintro ⟨x, hx, rfl, _⟩; exact List.mem_map.2 ⟨x, hx, rfl⟩
      · intro h
        obtain ⟨x, hx, rfl⟩ := List.mem_map.1 h
        refine ⟨x, hx, rfl, ?_⟩
        cases hc : seen.contains x.2.2 with
        | true => rfl
        | false =>
          have : x ∈ leftE es seen := List.mem_filter.2 ⟨hx, by rw [hc]; rfl⟩
          rw [hno] at this; cases this
    · have hxe : x ∈ es := (List.mem_filter.1 hx).1
      have hxs : seen.contains x.2.2 = false := by
        have := (List.mem_filter.1 hx).2
        simpa using this
      have hlt := left_push seen hx hg
      refine L_val rfl (x_extract rfl rfl) ?_
      refine L_nil ?_
      refine Wf_seq ?_
      refine Wf_true rfl ?_
      refine Wf_skip ?_
      refine Wf_block ?_
      refine Wf_seq ?_
      have hm3 : w3.heap[bm]? = some (mobj es clock) := hc3.at hm1 (by simp; omega)
      refine Wf_region rfl rfl ?_
      refine L_val rfl (x_entry rfl hm3 hi3 hxe hg.born) ?_
      refine L_val rfl (x_extract rfl rfl) ?_
      refine L_val rfl (x_assign (by conv => lhs; whnf)) ?_
      refine L_nil ?_
      refine Wf_seq ?_
      have hJ3 : J pre w3 := hJ pre W1 w3 (some W.heap.size) hJp ⟨hc3.os, hc3.tape, hc3.output, hc3.size, fun k hk hn => hc3.block k hk (fun hm => hn (by simpa [eq_comm] using hm))⟩ (fun r e => by cases e; exact ⟨Nat.le_refl _, _, hi1, rfl⟩)
      refine Wf_yield 2 rfl rfl rfl ?_
      refine L_val rfl (x_move (by conv => lhs; whnf)) ?_
      refine L_val rfl (x_move (by conv => lhs; whnf)) ?_
      refine L_nil ?_
      refine ⟨l, i64 (x.1 : Nat), _, rfl, rfl, yieldAt_m (hround pre x.1 w3 hJ3 (by omega)), fun e w' he => ?_⟩
      rcases he with ⟨rfl, hJ4, hk⟩ | ⟨rfl, hJ4⟩
      · refine ⟨_, rfl, ?_⟩
        refine L_val rfl (x_not rfl) ?_
        refine L_nil ?_
        refine Wf_false rfl ?_
        refine Wf_skip ?_
        have hxp : x.1 ∉ pre := by
          intro hxm
          obtain ⟨y, hy, hyx, hys⟩ := (hmem x.1).1 hxm
          have hfy := find_key hg.key hy
          have hfx := find_key hg.key hxe
          rw [hyx, hfx] at hfy
          cases hfy
          rw [hxs] at hys; cases hys
        refine ⟨(leftE es (seen.push x.2.2)).length, hlt, pre ++ [x.1], seen.push x.2.2, clock, rfl, ⟨rfl, rfl, trivial⟩, hk.same _ _ hi3 rfl, Nat.le_refl _, hk.same _ _ hm3 rfl, by simp; omega, ?_, fun i => ?_, hJ4⟩
        · rw [List.nodup_append]
          refine ⟨hnd, by simp, fun a ha b hb hab => ?_⟩
          simp at hb; subst hb; subst hab; exact hxp ha
        · rw [List.mem_append, hmem i]
          constructor
          · rintro (⟨y, hy, hyi, hys⟩ | hi)
            · exact ⟨y, hy, hyi, by rw [Array.contains_push, hys]; rfl⟩
            · simp at hi; exact ⟨x, hxe, hi.symm, by rw [Array.contains_push]; simp⟩
          · rintro ⟨y, hy, hyi, hys⟩
            rw [Array.contains_push] at hys
            cases hc : seen.contains y.2.2 with
            | true => exact .inl ⟨y, hy, hyi, hc⟩
            | false =>
              rw [hc, Bool.false_or] at hys
              right
              have hb' : y.2.2 = x.2.2 := by simpa using hys
              have h1 := find_born (ent y) (es.map ent) (by simpa [Function.comp_def, ent] using hg.born) (List.mem_map.2 ⟨y, hy, rfl⟩)
              have h2 := find_born (ent x) (es.map ent) (by simpa [Function.comp_def, ent] using hg.born) (List.mem_map.2 ⟨x, hxe, rfl⟩)
              have hbb : (ent y).born = (ent x).born := hb'
              rw [hbb, h2] at h1
              simp [ent] at h1
              have hk1 : (y.1 : Int) = (x.1 : Int) := by omega
              simp; omega
      · refine ⟨_, rfl, ?_⟩
        refine L_val rfl (x_not rfl) ?_
        refine L_nil ?_
        refine Wf_true rfl ?_
        refine Wf_ret ?_
        exact res0 rfl (.inr ⟨_, hJ4⟩)
  refine callsIn_m ((key.mono (fun e w' ⟨v, he, hq⟩ => ?_)) : CallsIn (FW none) 7 Try.prog 56 (#[.func (.yield l) #[] #[]] ++ #[ptr b1 0]) W _)
  refine ⟨⟨v, he⟩, ?_⟩
  rcases hq with ⟨xs, hS, hq⟩ | ⟨pre, hq⟩
  · exact .inl ⟨xs, hS, hq⟩
  · exact .inr ⟨pre, trivial, hq⟩

theorem f41_keys {w : World} {bm : Nat} : Calls Try.prog 41 #[.map (some bm)] w (Rv fun v w' => ∃ b1, v = .func (.func 56) #[] #[ptr b1 0] ∧ w.heap.size ≤ b1 ∧ w'.heap[b1]? = some (.cells #[.map (some bm)] 46 (0, 0)) ∧ Chg [] w w') := by
  refine calls_W (args := [.map (some bm)]) Try.func41 rfl Try.ntmps41 rfl ?_
  refine W_seq ?_
  refine W_region rfl ?_
  refine L_box rfl (by conv => lhs; whnf) (fun w1 hb1 hc1 hs1 => ?_)
  refine L_val rfl (x_assign (by conv => lhs; whnf)) ?_
  refine L_nil ?_
  refine W_seq ?_
  refine W_region rfl ?_
  refine L_val rfl (x_mkf (cs := #[ptr w.heap.size 0]) rfl) ?_
  refine L_val rfl (x_assign (by conv => lhs; whnf)) ?_
  refine L_nil ?_
  refine W_ret ?_
  exact res1 rfl rfl ⟨_, rfl, Nat.le_refl _, hb1, hc1⟩
end Go.Proofs.Ytinoebjhcmeppaa
