/- The walk of the document's 'front' of a record; rules for regions that draw their order and append or store. -/
import Derived.Test.YtinoebjhcmeppaaRefC
namespace Go.Proofs.Ytinoebjhcmeppaa
open E Sha
set_option maxRecDepth 100000
set_option maxHeartbeats 4000000

section
variable {P : Program} {n : Nat} {ops : Array Oper} {S : World → Prop} {N R : Fr → World → Prop} {X : Nat → Fr → World → Prop} {f : Fr} {w : World} {fuel : Nat} {listed : Array Bool}
variable {i : Nat} {d : Tmp} {op : Op} {ty : TypeId} {ps : String} {af : Array Edge} {gd : Option (Nat × Bool)}
theorem S_new {v : Value} {w' : World} (hi : ops[i]? = some ⟨some d, op, ty, ps, af, gd⟩) (hd : Nat.blt d n = true) (hw : Region.wanted ⟨some d, op, ty, ps, af, gd⟩ (yieldedF ops f) = true)
    (hx : (execOp (ev f) ⟨some d, op, ty, ps, af, gd⟩).run P w = .ok (.value v) w') (hS : S w') (h : H P n ops S N R X fuel (listed.setIfInBounds i true) (upd f d v) w') : stepH P n ops S N R X fuel listed f w i :=
  ⟨_, hi, hd, hw, by unfold stepF; rw [hx]; exact ⟨(fun h => by cases h), hS, h⟩⟩
theorem S_append {t e : TypeId} {s x : Operand} {z : Value} {by' : Nat} {base m : Nat} {v y : Value} {xs ys : List Value} (he : elem1 P t = some (e, z, by')) (hi : ops[i]? = some ⟨some d, .call ⟨.builtin .append, #[s, x], #[t, t]⟩, ty, ps, af, gd⟩) (hd : Nat.blt d n = true)
    (hw : Region.wanted ⟨some d, .call ⟨.builtin .append, #[s, x], #[t, t]⟩, ty, ps, af, gd⟩ (yieldedF ops f) = true)
    (hs : ev f s = v) (hy : ev f x = y) (hown : w.ownsRow base e 1 v m xs) (hx : Rw w y ys)
    (h1 : ∀ u ∈ ys, u.oneCell' = true) (h63 : m + ys.length ≤ maxLen) (hbytes : (m + ys.length) * by' ≤ 140737488355328) (hbase : base ≤ w.heap.size)
    (h : ∀ v' w', Appended base e v (xs ++ ys) w v' w' → S w' ∧ H P n ops S N R X fuel (listed.setIfInBounds i true) (upd f d v') w') : stepH P n ops S N R X fuel listed f w i := by
  obtain ⟨v', w', hr, ha⟩ := run_append1 t ty he hown hx h1 h63 hbytes hbase
  refine S_new hi hd hw (x_builtin (xs := [s, x]) (r := [v, y]) (by simp [hs, hy]) _ rfl ?_) (h v' w' ha).1 (h v' w' ha).2
  simp only [builtin, Sem.run_bind, hr, Result.andThen_ok, Sem.run_pure]
theorem S_storeAgg {t : TypeId} {x y : Operand} {b o k : Nat} {c cs : Array Value} {T : TypeId} (hi : ops[i]? = some ⟨none, .store t x y, ty, ps, af, gd⟩) (hs : cellsT P t = some k)
    (hw : Region.wanted ⟨none, .store t x y, ty, ps, af, gd⟩ (yieldedF ops f) = true) (hx : ev f x = .pointer (some ⟨b, o, none⟩)) (hy : ev f y = .agg cs) (hn : cs.size = k) (h1 : ∀ v ∈ cs.toList, v.oneCell' = true)
    (hb : w.heap[b]? = some (.cells c T (0, 0))) (ho : o + k ≤ c.size)
    (h : ∀ w', w'.heap[b]? = some (.cells (c.toList.take o ++ cs.toList ++ c.toList.drop (o + k)).toArray T (0, 0)) → Chg [b] w w' → S w' ∧ H P n ops S N R X fuel (listed.setIfInBounds i true) f w') : stepH P n ops S N R X fuel listed f w i :=
  ⟨_, hi, rfl, hw, by unfold stepF; rw [x_storeAgg hs hx hy hn h1 hb ho]; exact ⟨(fun h => by cases h), h _ (setRow_at hb) (Chg.setRow w b _)⟩⟩
end


theorem f31_front {w : World} {x : Value} {ys : List Int} {k : Nat} (hx : Bt w x ys) (hlen : ys.length ≤ 34359738368) (hk : k ≤ 68719476736) :
    Calls Try.prog 31 #[x, i64 (k : Nat)] w (Rv fun v w' => OwnB w w' v (nb ys.length 4 ++ sumB ys k) ∧ Chg [] w w') := by
  have hmx := max_big
  have hmx2 : maxLen ≤ 9223372036854775807 := by decide
  obtain ⟨ax, capx, rfl⟩ := hx.is
  refine calls_W (args := [.slice ax ys.length capx, i64 (k : Nat)]) Try.func31 rfl Try.ntmps31 rfl ?_
  refine W_seq ?_
  refine W_region rfl ?_
  refine L_val rfl (x_assign (by conv => lhs; whnf)) ?_
  refine L_nil ?_
  refine W_seq ?_
  refine W_region rfl ?_
  refine L_new rfl (x_buildSlice rfl (run_buildSliceN (cells := L8 RECO) e1_37 (by decide) (by decide) (by kernel_rfl))) ?_
  refine L_new rfl (x_convR rfl (Lib.run_convert_bytes_const w 37 5 (L8 RECO) 4 4 (elemOfT_spec el37).1 (kindOf_spec kd5))) ?_
  generalize hw1 : w.alloc (.cells (L8 RECO) 5 ((L8 RECO).size, (L8 RECO).size + 1)) = w1
  have hb1 : w1.heap[w.heap.size]? = some (.cells (L8 RECO) 5 ((L8 RECO).size, (L8 RECO).size + 1)) := by subst hw1; exact Go.heap_alloc_new _ _
  have hc1 : Chg [] w w1 := by subst hw1; exact Chg.alloc _ _ _
  have hB1 : Bt w1 (.slice (some ⟨w.heap.size, 0, none⟩) 4 4) RECO := L8_bytes hb1 (by decide) rfl
  refine L_val rfl (x_move (by conv => lhs; whnf)) ?_
  refine L_val rfl (x_conv kd3 kd73 rfl (wru64 (c := ((k : Nat) : Int)) (by omega) (by omega) (by omega))) ?_
  refine L_call rfl (x_call ok50) (f50_num (k : Nat)) (fun v2 w2 ⟨ho2, hc2⟩ => ?_)
  obtain ⟨a2, cap2, rfl⟩ := own_slice ho2
  refine L_val rfl (x_move (by conv => lhs; whnf)) ?_
  refine L_new rfl (x_buildSlice rfl (run_buildSliceN (cells := #[.slice (some ⟨w.heap.size, 0, none⟩) 4 4, .slice a2 (nb k 4).length cap2, .slice ax ys.length capx]) e1_22 (by decide) (by decide) (by kernel_rfl))) ?_
  generalize hw3 : w2.alloc (.cells #[.slice (some ⟨w.heap.size, 0, none⟩) 4 4, .slice a2 (nb k 4).length cap2, .slice ax ys.length capx] 37) = w3
  have hb3 : w3.heap[w2.heap.size]? = some (.cells #[.slice (some ⟨w.heap.size, 0, none⟩) 4 4, .slice a2 (nb k 4).length cap2, .slice ax ys.length capx] 37 (0, 0)) := by subst hw3; exact Go.heap_alloc_new _ _
  have hc3 : Chg [] w2 w3 := by subst hw3; exact Chg.alloc _ _ _
  have hR3 : Rw w3 (.slice (some ⟨w2.heap.size, 0, none⟩) 3 3) [.slice (some ⟨w.heap.size, 0, none⟩) 4 4, .slice a2 (nb k 4).length cap2, .slice ax ys.length capx] :=
    Rw.of_block hb3 rfl (Nat.le_refl _) (by decide) (fun j u hu => by simpa using hu)
  have hRs : Rs w3 [.slice (some ⟨w.heap.size, 0, none⟩) 4 4, .slice a2 (nb k 4).length cap2, .slice ax ys.length capx] [RECO, nb k 4, ys] :=
    ⟨(hB1.chg0 hc2).chg0 hc3, (ho2.bt).chg0 hc3, ((hx.chg0 hc1).chg0 hc2).chg0 hc3, trivial⟩
  have hfl : [RECO, nb k 4, ys].flatten = RECO ++ nb k 4 ++ ys := by simp
  refine L_call rfl (x_call ok49) (f49_cat hR3 hRs (by rw [hfl]; simp [nb_len, RECO]; omega)) (fun v4 w4 ⟨ho4, hc4⟩ => ?_)
  rw [hfl] at ho4
  refine L_call rfl (x_call ok48) (f48_sum ho4.bt (by simp [nb_len, RECO]; omega)) (fun v5 w5 ⟨hv5, hc5⟩ => ?_)
  subst hv5
  refine L_alloc zero93 rfl (fun w6 hb6 hc6 hs6 => ?_)
  refine L_storeAll sz93 rfl rfl rfl (by rw [L8_size, sha_len]) (L8_one _) hb6 rfl (fun w7 hb7 hc7 => ?_)
  refine L_nil ?_
  have hC5 : Chg [] w w5 := (((hc1.trans0 hc2).trans0 hc3).trans0 hc4).trans0 hc5
  have hs5 := hC5.size
  have hC7 : Chg [] w w7 := (hC5.trans0 hc6).out hc7 (by simp; omega)
  have hs7 := hC7.size
  have hlt5 := lt_of_at hb7
  generalize hq5 : w5.heap.size = b5 at *
  refine W_seq ?_
  refine W_heldN (fun _ => True) 7 mixed rfl ?_
  refine H_take 0 rfl (by kernel_rfl) (by kernel_rfl) (by kernel_rfl) rfl rfl trivial (fun w' _ => x_move (v := .slice ax ys.length capx) rfl) ?_
  refine H_take 1 rfl (by kernel_rfl) (by kernel_rfl) (by kernel_rfl) rfl rfl trivial (fun w' _ => x_len el37 rfl) ?_
  refine H_take 2 rfl (by kernel_rfl) (by kernel_rfl) (by kernel_rfl) rfl rfl trivial (fun w' _ => x_conv kd3 kd73 rfl (wru64 (c := ((ys.length : Nat) : Int)) (by omega) (by omega) (by omega))) ?_
  refine H_take 4 rfl (by kernel_rfl) (by kernel_rfl) (by kernel_rfl) rfl rfl trivial (fun w' _ => x_sliceArrH ar93 (h := 8) rfl rfl (by decide)) ?_
  refine H_one 3 (by kernel_rfl) (S_call rfl rfl rfl (x_call ok50) (f50_num (ys.length : Nat)) (fun v8 w8 ⟨ho8, hc8⟩ => ⟨trivial, ?_⟩))
  have h8 : Bt w8 (.slice (some ⟨b5, 0, none⟩) 8 32) ((sha (RECO ++ nb k 4 ++ ys)).take 8) := by
    have h := (L8_bytes hb7 (by rw [sha_len]; decide) (sha_len _)).take (l := 8) (by decide)
    exact Rw.chg0 (h.chg0 (Chg.drew [] w7)) hc8
  have hC8 : Chg [] w w8 := (hC7.trans0 (Chg.drew [] w7)).trans0 hc8
  refine H_one 5 (by kernel_rfl) (S_append (base := w.heap.size) e1_37 rfl rfl rfl rfl rfl (own_weak ho8 hs7) h8 (fun u hu => by simp only [List.mem_map] at hu; obtain ⟨z, _, rfl⟩ := hu; rfl) (by simp [nb_len, sha_len]; omega) (by simp [nb_len, sha_len]) hC8.size (fun v9 w9 ha9 => ⟨trivial, ?_⟩))
  refine H_take 6 rfl (by kernel_rfl) (by kernel_rfl) (by kernel_rfl) rfl rfl trivial (fun w' _ => x_assign (v := v9) rfl) ?_
  refine H_done (by kernel_rfl) ?_
  refine W_ret ?_
  have ho9 := ha9.own
  rw [← List.map_append, List.length_map] at ho9
  exact res1 rfl rfl ⟨ho9, hC8.out ha9.chg (fun k hk => Nat.le_trans hs7 (own_new ho8 k hk))⟩
end Go.Proofs.Ytinoebjhcmeppaa
