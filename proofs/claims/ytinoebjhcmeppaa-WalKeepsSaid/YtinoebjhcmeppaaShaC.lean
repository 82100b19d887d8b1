/- The walks of the program's '(*sha.Digest).Write', '(*sha.Digest).Sum' and 'sha.Sum'. -/
import Derived.Test.YtinoebjhcmeppaaShaB
namespace Go.Proofs.Ytinoebjhcmeppaa
open E Sha
set_option maxRecDepth 100000
set_option maxHeartbeats 2000000

/-- A digest that took these bytes. -/
def Dg (w : World) (bd : Nat) (bs : List Int) : Prop :=
  ∃ rest, rest.length = 64 ∧ w.heap[bd]? = some (.cells (dig (blocks H0 bs) rest (bs.length : Nat)) 116 (0, 0)) ∧ rest.take (bs.length % 64) = tail bs
theorem dig_rest {w : World} {bd : Nat} {h rest : List Int} {n : Int} (hb : w.heap[bd]? = some (.cells (dig h rest n) 116 (0, 0))) (hh : h.length = 8) (hr : rest.length = 64) : Bt w (.slice (some ⟨bd, 0 + 8, none⟩) 64 64) rest :=
  Rw.of_block hb (by simp [hr]) (Nat.le_refl _) (by decide) (fun j u hu => by
    have hj : j < 64 := by have := (List.getElem?_eq_some_iff.1 hu).1; simp [hr] at this; exact this
    simp only [dig, List.getElem?_toArray, List.append_assoc]
    rw [List.getElem?_append_right (by simp [hh]), List.getElem?_append_left (by simp [hh, hr]; omega)]
    simpa [hh] using hu)
theorem b8 (ys : List Int) : ∀ u ∈ ys.map u8, u.oneCell' = true := by
  intro u hu; simp at hu; obtain ⟨x, _, rfl⟩ := hu; rfl

theorem f60_write {w : World} {bd : Nat} {bs ys : List Int} {v : Value} (hD : Dg w bd bs) (hv : Bt w v ys) (hne : ∀ b, v.ownBlock = some b → b ≠ bd) (hlen : bs.length + ys.length ≤ 1099511627776) :
    Calls Try.prog 60 #[ptr bd 0, v] w (Rv fun _ w' => Dg w' bd (bs ++ ys) ∧ Chg [bd] w w') := by
  obtain ⟨rest, hr, hb0, ht⟩ := hD
  have hh : (blocks H0 bs).length = 8 := blocks_len H0_len bs
  obtain ⟨a, cap, rfl⟩ := hv.is
  have hl := hv.lens
  generalize hat : bs.length % 64 = at0 at ht
  have hat2 : at0 < 64 := by omega
  refine calls_W (args := [ptr bd 0, .slice a ys.length cap]) Try.func60 rfl Try.ntmps60 rfl ?_
  refine W_seq ?_
  refine W_seq ?_
  refine W_region rfl ?_
  refine L_val rfl (x_move (by conv => lhs; whnf)) ?_
  refine L_val rfl (x_eqlNil pt106 rfl rfl) ?_
  refine L_nil ?_
  · refine W_false rfl ?_
    refine W_skip ?_
    refine W_seq ?_
    refine W_region rfl ?_
    refine L_val rfl (x_move (by conv => lhs; whnf)) ?_
    refine L_val rfl (x_nilCheck rfl) ?_
    refine L_val rfl (x_field fo_116_2 rfl) ?_
    refine L_val rfl (x_load sc73 rfl (cell_at hb0 (dig_getN hh hr))) ?_
    refine L_val rfl (x_rem rfl rfl (by decide) (tm (c := ((at0 : Nat) : Int)) (by omega) (by omega) (by omega))) ?_
    refine L_val rfl (x_conv kd73 kd3 rfl (wr64 (c := ((at0 : Nat) : Int)) (by omega) (by omega) (by omega))) ?_
    refine L_val rfl (x_assign (by conv => lhs; whnf)) ?_
    refine L_nil ?_
    refine W_seq ?_
    refine W_region rfl ?_
    refine L_val rfl (x_move (by conv => lhs; whnf)) ?_
    refine L_val rfl (x_nilCheck rfl) ?_
    refine L_val rfl (x_field fo_116_2 rfl) ?_
    refine L_val rfl (x_load sc73 rfl (cell_at hb0 (dig_getN hh hr))) ?_
    refine L_val rfl (x_move (by conv => lhs; whnf)) ?_
    refine L_val rfl (x_len el37 rfl) ?_
    refine L_val rfl (x_conv kd3 kd73 rfl (wru64 (c := ((ys.length : Nat) : Int)) (by omega) (by omega) (by omega))) ?_
    refine L_val rfl (x_add rfl rfl (wru64 (c := (((bs ++ ys).length : Nat) : Int)) (by simp) (by omega) (by simp; omega))) ?_
    refine L_val rfl (x_nilCheck rfl) ?_
    refine L_val rfl (x_field fo_116_2 rfl) ?_
    refine L_store sz73 rfl rfl (by conv => lhs; whnf) rfl hb0 (by rw [dig_size hh hr]; decide) (fun w1 hb1 hc1 => ?_)
    rw [show 0 + 72 = 72 by rfl, dig_setN hh hr] at hb1
    have hv1 : Bt w1 (.slice a ys.length cap) ys := hv.chg hc1 (fun b hb hm => hne b hb (by simpa using hm))
    refine L_nil ?_
    refine W_cut (I := fun f w2 => ∃ bs' ys' rest' v', bs'.length % 64 = 0 ∧ bs' ++ ys' = bs ++ ys ∧ Frm f [(0, ptr bd 0), (1, v')] ∧ Bt w2 v' ys' ∧ (∀ b, v'.ownBlock = some b → b ≠ bd) ∧ rest'.length = 64 ∧
        w2.heap[bd]? = some (.cells (dig (blocks H0 bs') rest' ((bs ++ ys).length : Nat)) 116 (0, 0)) ∧ Chg [bd] w w2) ?_ (fun f w2 hI => ?_)
    · skip
      refine W_seq ?_
      refine W_region rfl ?_
      refine L_val rfl (x_move (by conv => lhs; whnf)) ?_
      refine L_val rfl (x_gtr rfl rfl rfl) ?_
      refine L_nil ?_
      by_cases hcond : 0 < at0
      · refine W_true (congrArg Value.bool (decide_eq_true (by omega))) ?_
        refine W_seq ?_
        refine W_region rfl ?_
        refine L_val rfl (x_move (by conv => lhs; whnf)) ?_
        refine L_val rfl (x_nilCheck rfl) ?_
        refine L_val rfl (x_field fo_116_1 rfl) ?_
        refine L_val rfl (x_move (by conv => lhs; whnf)) ?_
        refine L_val rfl (x_sliceArrL ar67 (l := at0) rfl rfl (by omega)) ?_
        refine L_val rfl (x_move (by conv => lhs; whnf)) ?_
        refine L_copy el37 rfl rfl rfl hb1 hv1 (by rw [dig_size hh hr]; omega) (b8 ys) (fun w2 hb2 hc2 => ?_)
        rw [List.length_map, ← List.map_take, show 0 + 8 + at0 * 1 = 8 + at0 by omega, show min ys.length (64 - at0) = (ys.take (64 - at0)).length by simp; omega, dig_splice hh hr (by omega) (by simp; omega)] at hb2
        have hv2 : Bt w2 (.slice a ys.length cap) ys := hv1.chg hc2 (fun b hb hm => hne b hb (by simpa using hm))
        refine L_val rfl (x_assign (by conv => lhs; whnf)) ?_
        refine L_nil ?_
        refine W_seq ?_
        refine W_seq ?_
        refine W_region rfl ?_
        refine L_val rfl (x_move (by conv => lhs; whnf)) ?_
        refine L_val rfl (x_move (by conv => lhs; whnf)) ?_
        refine L_val rfl (x_sliceL el37 (l := min ys.length (64 - at0)) rfl (by rw [List.length_map]; rfl) (by omega)) ?_
        refine L_val rfl (x_assign (by conv => lhs; whnf)) ?_
        refine L_nil ?_
        refine W_seq ?_
        refine W_region rfl ?_
        refine L_val rfl (x_move (by conv => lhs; whnf)) ?_
        refine L_val rfl (x_move (by conv => lhs; whnf)) ?_
        refine L_val rfl (x_add rfl rfl (wr64 (c := ((at0 + min ys.length (64 - at0) : Nat) : Int)) (by simp) (by omega) (by omega))) ?_
        refine L_val rfl (x_lss rfl rfl rfl) ?_
        refine L_nil ?_
        by_cases hcond : at0 + min ys.length (64 - at0) < 64
        · refine W_true (congrArg Value.bool (decide_eq_true (by omega))) ?_
          refine W_ret ?_
          have htl := tail_len bs
          have htt : tail (bs ++ ys) = tail bs ++ ys := by
            rw [tail_tail]; unfold tail; rw [show (List.drop (bs.length / 64 * 64) bs ++ ys).length / 64 * 64 = 0 by have := tail_len bs; simp [tail] at this; simp; omega]; rfl
          refine res0 rfl ⟨⟨_, ?_, by rw [hb2, blocks_tail, blocks_lt (bs := tail bs ++ ys) (by simp; omega)], ?_⟩, hc1.same hc2⟩
          · simp; omega
          · rw [List.length_append, show (bs.length + ys.length) % 64 = at0 + ys.length by omega, htt, ← ht, List.take_of_length_le (by omega : ys.length ≤ 64 - at0), List.append_assoc, List.take_append]
            rw [List.take_of_length_le (by simp; omega), show at0 + ys.length - (List.take at0 rest).length = ys.length by simp; omega, List.take_append_of_le_length (Nat.le_refl _), List.take_length]
        · refine W_false (congrArg Value.bool (decide_eq_false (by omega))) ?_
          refine W_skip ?_
          refine W_region rfl ?_
          refine L_val rfl (x_move (by conv => lhs; whnf)) ?_
          refine L_val rfl (x_move (by conv => lhs; whnf)) ?_
          refine L_val rfl (x_nilCheck rfl) ?_
          refine L_val rfl (x_field fo_116_1 rfl) ?_
          refine L_val rfl (x_sliceArr ar67 rfl) ?_
          have hk : (ys.take (64 - at0)).length = 64 - at0 := by simp; omega
          have hr2 : (rest.take at0 ++ ys.take (64 - at0) ++ rest.drop (at0 + (ys.take (64 - at0)).length)) = tail bs ++ ys.take (64 - at0) := by
            rw [hk, List.drop_eq_nil_of_le (by omega), List.append_nil, ht]
          have hl2 : (tail bs ++ ys.take (64 - at0)).length = 64 := by have := tail_len bs; simp; omega
          rw [hr2] at hb2
          refine L_call rfl (x_call ok67) (f67_block (bs := tail bs ++ ys.take (64 - at0)) hb2 hh hl2 (fun w' _ hq => by obtain ⟨h', hh', hq⟩ := hq; exact dig_rest hq hh' hl2)) (fun v w3 ⟨hb3, hc3⟩ => ?_)
          rw [← blocks_tail] at hb3
          have hv3 : Bt w3 (.slice a ys.length cap) ys := hv2.chg hc3 (fun b hb hm => hne b hb (by simpa using hm))
          refine L_nil ?_
          refine ⟨bs ++ ys.take (64 - at0), ys.drop (64 - at0), _, _, by simp; omega, by rw [List.append_assoc, List.take_append_drop], ⟨rfl, rfl, trivial⟩, ?_, ?_, hl2, hb3, (hc1.same hc2).same hc3⟩
          · rw [show min ys.length (64 - at0) = 64 - at0 by omega]; exact hv3.drop rfl (by omega)
          · intro b hb; exact hne b (by rw [ownBlock_baseAt (n' := ys.length) (cap' := cap)] at hb; exact hb)
      · refine W_false (congrArg Value.bool (decide_eq_false (by omega))) ?_
        refine W_skip ?_
        refine ⟨bs, ys, rest, _, by omega, rfl, ⟨rfl, rfl, trivial⟩, hv1, hne, hr, hb1, hc1⟩
    obtain ⟨bs', ys', rest', v', hbs', hcat, hF, hv', hne', hr', hb2, hc2⟩ := hI
    obtain ⟨g, rfl⟩ := hF.eta
    have hh' : (blocks H0 bs').length = 8 := blocks_len H0_len bs'
    obtain ⟨a', cap', rfl⟩ := hv'.is
    have hl' := hv'.lens
    have hcl := congrArg List.length hcat
    simp only [List.length_append] at hcl
    refine W_seq ?_
    refine W_region rfl ?_
    refine L_val rfl (x_move (by conv => lhs; whnf)) ?_
    refine L_val rfl (x_move (by conv => lhs; whnf)) ?_
    refine L_val rfl (x_move (by conv => lhs; whnf)) ?_
    refine L_val rfl (x_len el37 rfl) ?_
    refine L_val rfl (x_quo rfl rfl (by decide) (quo64 (c := ((ys'.length / 64 : Nat) : Int)) (by omega) (by omega) (by omega) (by omega))) ?_
    refine L_val rfl (x_mul rfl rfl (wr64 (c := ((ys'.length / 64 * 64 : Nat) : Int)) (by omega) (by omega) (by omega))) ?_
    refine L_val rfl (x_sliceH el37 (h := ys'.length / 64 * 64) rfl rfl (by omega)) ?_
    refine L_call rfl (x_call ok67) (f67_block hb2 hh' hr' (Src.of _ (hv'.take (by omega)) (fun b hb => hne' b ((ownBlock_baseAt (a := a') (c := cap') (l := 0) (s := 1) (n := ys'.length / 64 * 64) (cap := cap') (n' := ys'.length) (cap' := cap')).symm.trans hb)))) (fun v w3 ⟨hb3, hc3⟩ => ?_)
    rw [blocks_take, ← blocks_append _ _ _ hbs', hcat] at hb3
    have hv3 : Bt w3 (.slice a' ys'.length cap') ys' := hv'.chg hc3 (fun b hb hm => hne' b hb (by simpa using hm))
    have hh3 : (blocks H0 (bs ++ ys)).length = 8 := blocks_len H0_len _
    refine L_nil ?_
    refine W_tail 10 mixed (by kernel_rfl) rfl ?_
    refine L_val rfl (x_move (by conv => lhs; whnf)) ?_
    refine L_val rfl (x_nilCheck rfl) ?_
    refine L_val rfl (x_field fo_116_1 rfl) ?_
    refine L_val rfl (x_sliceArr ar67 rfl) ?_
    refine L_val rfl (x_move (by conv => lhs; whnf)) ?_
    refine L_val rfl (x_move (by conv => lhs; whnf)) ?_
    refine L_val rfl (x_len el37 rfl) ?_
    refine L_val rfl (x_quo rfl rfl (by decide) (quo64 (c := ((ys'.length / 64 : Nat) : Int)) (by omega) (by omega) (by omega) (by omega))) ?_
    refine L_val rfl (x_mul rfl rfl (wr64 (c := ((ys'.length / 64 * 64 : Nat) : Int)) (by omega) (by omega) (by omega))) ?_
    refine L_val rfl (x_sliceL el37 (l := ys'.length / 64 * 64) rfl rfl (by omega)) ?_
    refine L_nil ?_
    have hv4 : Bt w3.drew (.slice (baseAt a' cap' (ys'.length / 64 * 64) 1) (ys'.length - ys'.length / 64 * 64) (cap' - ys'.length / 64 * 64)) (tail ys') := (hv3.drop rfl (by omega)).chg ((Chg.refl [] _).d) (by simp)
    have htl := tail_len ys'
    refine L_copy el37 rfl rfl rfl hb3 hv4 (by rw [dig_size hh3 hr']; omega) (b8 _) (fun w4 hb4 hc4 => ?_)
    rw [List.length_map, ← List.map_take, List.take_of_length_le (l := tail ys') (by omega), show 0 + 8 = 8 + 0 by rfl, show min (tail ys').length 64 = (tail ys').length by omega, dig_splice hh3 hr' (by omega) (by omega)] at hb4
    refine L_nil ?_
    refine res0 rfl ⟨⟨_, ?_, hb4, ?_⟩, ((hc2.same hc3).d).same hc4⟩
    · simp; omega
    · rw [List.take_zero, List.nil_append, ← hcat, tail_app _ _ hbs', List.length_append, show (bs'.length + ys'.length) % 64 = (tail ys').length by omega, List.take_append_of_le_length (Nat.le_refl _), List.take_length]

end Go.Proofs.Ytinoebjhcmeppaa
