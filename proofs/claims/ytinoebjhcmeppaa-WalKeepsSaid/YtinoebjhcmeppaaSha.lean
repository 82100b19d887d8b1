/- SHA-256 over lists of whole numbers, step by step as the texts take the steps: plain Lean. -/
import Derived.Test.YtinoebjhcmeppaaMem
namespace Go.Proofs.Ytinoebjhcmeppaa
open E
namespace Sha

def iter {α : Type} (f : Nat → α → α) : Nat → α → α
  | 0, x => x
  | n + 1, x => f n (iter f n x)
def W32 (x : Int) : Int := IntKind.u32.wrap x
def ad (a b : Int) : Int := IntKind.u32.wrap (a + b)
def xr (a b : Int) : Int := bits .xor .u32 a b
def an (a b : Int) : Int := bits .and .u32 a b
def og (a b : Int) : Int := bits .or .u32 a b
def nt (a : Int) : Int := bits .xor .u32 IntKind.u32.max a
def sr (a : Int) (n : Nat) : Int := a.fdiv (2 ^ n)
def sl (a : Int) (n : Nat) : Int := IntKind.u32.wrap (a * 2 ^ n)
def ror (x : Int) (n : Nat) : Int := og (sr x n) (sl x (32 - n))
def at' (l : List Int) (i : Nat) : Int := l.getD i 0

def KS : List Int := [0x428a2f98, 0x71374491, 0xb5c0fbcf, 0xe9b5dba5, 0x3956c25b, 0x59f111f1, 0x923f82a4, 0xab1c5ed5,
  0xd807aa98, 0x12835b01, 0x243185be, 0x550c7dc3, 0x72be5d74, 0x80deb1fe, 0x9bdc06a7, 0xc19bf174,
  0xe49b69c1, 0xefbe4786, 0x0fc19dc6, 0x240ca1cc, 0x2de92c6f, 0x4a7484aa, 0x5cb0a9dc, 0x76f988da,
  0x983e5152, 0xa831c66d, 0xb00327c8, 0xbf597fc7, 0xc6e00bf3, 0xd5a79147, 0x06ca6351, 0x14292967,
  0x27b70a85, 0x2e1b2138, 0x4d2c6dfc, 0x53380d13, 0x650a7354, 0x766a0abb, 0x81c2c92e, 0x92722c85,
  0xa2bfe8a1, 0xa81a664b, 0xc24b8b70, 0xc76c51a3, 0xd192e819, 0xd6990624, 0xf40e3585, 0x106aa070,
  0x19a4c116, 0x1e376c08, 0x2748774c, 0x34b0bcb5, 0x391c0cb3, 0x4ed8aa4a, 0x5b9cca4f, 0x682e6ff3,
  0x748f82ee, 0x78a5636f, 0x84c87814, 0x8cc70208, 0x90befffa, 0xa4506ceb, 0xbef9a3f7, 0xc67178f2]
def H0 : List Int := [0x6a09e667, 0xbb67ae85, 0x3c6ef372, 0xa54ff53a, 0x510e527f, 0x9b05688c, 0x1f83d9ab, 0x5be0cd19]

def be32 (s : List Int) (i : Nat) : Int :=
  og (og (og (sl (W32 (at' s (4 * i))) 24) (sl (W32 (at' s (4 * i + 1))) 16)) (sl (W32 (at' s (4 * i + 2))) 8)) (W32 (at' s (4 * i + 3)))
def st16 (s : List Int) (i : Nat) (ws : List Int) : List Int := ws.set i (be32 s i)
def sigs (x : Int) : Int := xr (xr (ror x 7) (ror x 18)) (sr x 3)
def sigt (y : Int) : Int := xr (xr (ror y 17) (ror y 19)) (sr y 10)
def st64 (i : Nat) (ws : List Int) : List Int :=
  ws.set (16 + i) (ad (ad (ad (at' ws i) (sigs (at' ws (i + 1)))) (at' ws (i + 9))) (sigt (at' ws (i + 14))))
def sched16 (s : List Int) (n : Nat) : List Int := iter (st16 s) n (List.replicate 64 0)
def sched (s : List Int) (n : Nat) : List Int := iter st64 n (sched16 s 16)
def one (v : List Int) (k w : Int) : Int :=
  ad (ad (ad (ad (at' v 7) (xr (xr (ror (at' v 4) 6) (ror (at' v 4) 11)) (ror (at' v 4) 25))) (xr (an (at' v 4) (at' v 5)) (an (nt (at' v 4)) (at' v 6)))) k) w
def two (v : List Int) : Int :=
  ad (xr (xr (ror (at' v 0) 2) (ror (at' v 0) 13)) (ror (at' v 0) 22)) (xr (xr (an (at' v 0) (at' v 1)) (an (at' v 0) (at' v 2))) (an (at' v 1) (at' v 2)))
def rnd (ws : List Int) (i : Nat) (v : List Int) : List Int :=
  [ad (one v (at' KS i) (at' ws i)) (two v), at' v 0, at' v 1, at' v 2, ad (at' v 3) (one v (at' KS i) (at' ws i)), at' v 4, at' v 5, at' v 6]
def rounds (s h : List Int) (n : Nat) : List Int := iter (rnd (sched s 48)) n h
def addH (v : List Int) (i : Nat) (h : List Int) : List Int := h.set i (ad (at' h i) (at' v i))
def compress (h s : List Int) : List Int := iter (addH (rounds s h 64)) 8 h

theorem iter_length {α : Type} {f : Nat → List α → List α} (hf : ∀ i l, (f i l).length = l.length) : ∀ n (l : List α), (iter f n l).length = l.length
  | 0, _ => rfl
  | n + 1, l => by rw [iter, hf, iter_length hf n l]
theorem sched16_len (s : List Int) (n : Nat) : (sched16 s n).length = 64 := by
  unfold sched16; rw [iter_length (fun i l => by simp [st16])]; simp
theorem sched_len (s : List Int) (n : Nat) : (sched s n).length = 64 := by
  unfold sched; rw [iter_length (fun i l => by simp [st64])]; exact sched16_len s 16
theorem rounds_len (s h : List Int) (hh : h.length = 8) : ∀ n, (rounds s h n).length = 8
  | 0 => hh
  | n + 1 => rfl
theorem compress_len (h s : List Int) (hh : h.length = 8) : (compress h s).length = 8 := by
  unfold compress; rw [iter_length (fun i l => by simp [addH])]; exact hh
theorem addN_len (v h : List Int) (n : Nat) : (iter (addH v) n h).length = h.length := iter_length (fun i l => by simp [addH]) n h
theorem H0_len : H0.length = 8 := rfl
theorem KS_len : KS.length = 64 := rfl

/-- All whole blocks of bytes. -/
def blocks (h bs : List Int) : List Int :=
  if _ : bs.length < 64 then h else blocks (compress h (bs.take 64)) (bs.drop 64)
termination_by bs.length
decreasing_by simp; omega
theorem blocks_lt {h bs : List Int} (hb : bs.length < 64) : blocks h bs = h := by rw [blocks]; simp [hb]
theorem blocks_ge {h bs : List Int} (hb : 64 ≤ bs.length) : blocks h bs = blocks (compress h (bs.take 64)) (bs.drop 64) := by
  rw [blocks]; simp [Nat.not_lt.2 hb]
theorem blocks_len {h : List Int} (hh : h.length = 8) (bs : List Int) : (blocks h bs).length = 8 := by
  induction h, bs using blocks.induct with
  | case1 h bs hb => rw [blocks_lt hb]; exact hh
  | case2 h bs hb ih => rw [blocks_ge (by omega)]; exact ih (compress_len _ _ hh)
/-- What stands behind the whole blocks. -/
def tail (bs : List Int) : List Int := bs.drop (bs.length / 64 * 64)
theorem blocks_append (h xs ys : List Int) (hx : xs.length % 64 = 0) : blocks h (xs ++ ys) = blocks (blocks h xs) ys := by
  induction h, xs using blocks.induct with
  | case1 h xs hb =>
    have : xs = [] := List.eq_nil_of_length_eq_zero (by omega)
    subst this; rw [blocks_lt hb]; rfl
  | case2 h xs hb ih =>
    rw [blocks_ge (bs := xs) (by omega), ← ih (by simp; omega), blocks_ge (bs := xs ++ ys) (by simp; omega)]
    rw [List.take_append_of_le_length (by omega), List.drop_append_of_le_length (by omega)]
theorem blocks_take (h xs : List Int) : blocks h (xs.take (xs.length / 64 * 64)) = blocks h xs := by
  have e : xs = xs.take (xs.length / 64 * 64) ++ tail xs := (List.take_append_drop _ _).symm
  have hl : (xs.take (xs.length / 64 * 64)).length = xs.length / 64 * 64 := by simp; omega
  conv => rhs; rw [e, blocks_append _ _ _ (by rw [hl]; omega)]
  rw [blocks_lt (bs := tail xs) (by simp [tail]; omega)]
theorem tail_len (xs : List Int) : (tail xs).length = xs.length % 64 := by simp [tail]; omega
theorem blocks_tail (h xs ys : List Int) : blocks h (xs ++ ys) = blocks (blocks h xs) (tail xs ++ ys) := by
  have e : xs = xs.take (xs.length / 64 * 64) ++ tail xs := (List.take_append_drop _ _).symm
  have hl : (xs.take (xs.length / 64 * 64)).length = xs.length / 64 * 64 := by simp; omega
  conv => lhs; rw [e, List.append_assoc, blocks_append _ _ _ (by rw [hl]; omega)]
  rw [blocks_take]
theorem tail_app (xs ys : List Int) (hx : xs.length % 64 = 0) : tail (xs ++ ys) = tail ys := by
  unfold tail
  rw [List.drop_append, List.length_append]
  have h1 : xs.length ≤ (xs.length + ys.length) / 64 * 64 := by omega
  rw [List.drop_eq_nil_of_le h1, List.nil_append]
  congr 1; omega
theorem tail_tail (xs ys : List Int) : tail (xs ++ ys) = tail (tail xs ++ ys) := by
  have e : xs = xs.take (xs.length / 64 * 64) ++ tail xs := (List.take_append_drop _ _).symm
  have hl : (xs.take (xs.length / 64 * 64)).length = xs.length / 64 * 64 := by simp; omega
  conv => lhs; rw [e, List.append_assoc, tail_app _ _ (by rw [hl]; omega)]

/-! ### The digest of bytes -/
def zeros (n : Nat) : Nat := (119 - n % 64) % 64
def be64 (n : Int) (j : Nat) : List Int := (List.range j).map fun i => IntKind.u8.wrap ((IntKind.u64.wrap (n * 8)).fdiv (2 ^ (56 - 8 * i)))
def pad (n : Nat) : List Int := 128 :: List.replicate (zeros n) 0 ++ be64 n 8
def outB (h : List Int) (i : Nat) : Int := IntKind.u8.wrap ((at' h (i / 4)).fdiv (2 ^ (24 - 8 * (i % 4))))
def out (h : List Int) : List Int := (List.range 32).map (outB h)
def sha (bs : List Int) : List Int := out (blocks H0 (bs ++ pad bs.length))
theorem out_len (h : List Int) : (out h).length = 32 := by simp [out]
theorem sha_len (bs : List Int) : (sha bs).length = 32 := out_len _
theorem pad_len (n : Nat) : (n + (pad n).length) % 64 = 0 := by simp [pad, be64, zeros]; omega
theorem wrap8_range (x : Int) : 0 ≤ IntKind.u8.wrap x ∧ IntKind.u8.wrap x ≤ 255 := by
  simp [IntKind.wrap, IntKind.bits, IntKind.signed]; omega
theorem sha_range (bs : List Int) : ∀ x ∈ sha bs, 0 ≤ x ∧ x ≤ 255 := by
  intro x hx
  simp only [sha, out, List.mem_map] at hx
  obtain ⟨i, _, rfl⟩ := hx
  exact wrap8_range _

theorem og_comm (a b : Int) : og a b = og b a := by simp only [og, bits]; rw [BitVec.or_comm]
end Sha

/-! ### Rows of numbers of four bytes -/
def L32 (xs : List Int) : Array Value := (xs.map u32).toArray
theorem L32_size (xs : List Int) : (L32 xs).size = xs.length := by simp [L32]
theorem L32_get {xs : List Int} {i : Nat} (h : i < xs.length) : (L32 xs)[i]? = some (u32 (Sha.at' xs i)) := by simp [L32, Sha.at', h]
theorem L32_set (xs : List Int) (i : Nat) (v : Int) : (L32 xs).setIfInBounds i (u32 v) = L32 (xs.set i v) := by
  apply Array.ext'; simp [L32, List.map_set]
theorem cell32 {w : World} {b j i : Nat} {xs : List Int} {T : TypeId} {z : Nat × Nat} (hb : w.heap[b]? = some (.cells (L32 xs) T z)) (hj : j = i) (h : i < xs.length) :
    w.cell? ⟨b, j, none⟩ = some (u32 (Sha.at' xs i)) := by subst hj; exact cell_at hb (L32_get h)
theorem cell32e {w : World} {b j : Nat} {xs : List Int} {T : TypeId} {z : Nat × Nat} {c : Int} (hb : w.heap[b]? = some (.cells (L32 xs) T z)) (h : xs[j]? = some c) :
    w.cell? ⟨b, j, none⟩ = some (u32 c) := cell_at hb (by simp [L32, h])
theorem L32_one (xs : List Int) : ∀ v ∈ (L32 xs).toList, v.oneCell' = true := by
  intro v hv; simp [L32] at hv; obtain ⟨x, _, rfl⟩ := hv; rfl

end Go.Proofs.Ytinoebjhcmeppaa
