/- sha: what one block does (plain), the two rotations. -/
import Derived.Test.YtkdjimcpdbpemaaMut
import Derived.Test.YtkdjimcpdbpemaaHeld
import Derived.Laws.BitsAllLaws
namespace Go.Proofs.Ytkdjimcpdbpemaa
open Go Go.RowKit
set_option linter.unusedVariables false

theorem u32_in (op : BinOp) (a b : Int) : 0 ≤ bits op .u32 a b ∧ bits op .u32 a b < 4294967296 := by
  unfold bits
  rw [IntKind.wrap_u32]
  omega
theorem bits_or_comm (a b : Int) : bits .or .u32 a b = bits .or .u32 b a := by
  unfold bits
  simp [BitVec.or_comm]

/-- A number of 32 bits turned (k is from -31 to -1: to the right). -/
def rotk (x k : Int) : Int := bits .or .u32 (x / 2 ^ (-k).toNat) (x * 2 ^ (32 - (-k).toNat) % 4294967296)
theorem rotk_in (x k : Int) : 0 ≤ rotk x k ∧ rotk x k < 4294967296 := u32_in _ _ _

theorem rotk_any (x k : Int) (hx : 0 ≤ x ∧ x < 4294967296) (h1 : -31 ≤ k ∧ k ≤ -1) (w : World) :
    Calls Try.prog 52 #[.int .u32 x, .int .i64 k] w fun e w' => e = .returned (.int .u32 (rotk x k)) ∧ w = w' := by
  obtain ⟨n, hn⟩ : ∃ n, n = (-k).toNat := ⟨_, rfl⟩
  obtain ⟨m, hm⟩ : ∃ m, m = 32 - n := ⟨_, rfl⟩
  have hr : rotk x k = bits .or .u32 (x * 2 ^ m % 4294967296) (x / 2 ^ n) := by
    unfold rotk
    rw [← hn, ← hm, bits_or_comm]
  have hmask : bits .and .u64 (IntKind.u64.wrap k) 31 = (m : Int) := by
    have e : IntKind.u64.wrap k = ((18446744073709551616 - n : Nat) : Int) := by rw [IntKind.wrap_u64]; omega
    rw [e, show (31 : Int) = ((31 : Nat) : Int) by rfl, bits_and_u64_nat _ _ (by omega) (by omega), show (31 : Nat) = 2 ^ 5 - 1 by rfl, Nat.and_two_pow_sub_one_eq_mod]
    omega
  rw [hr]
  have t1 : m ≤ 31 := by omega
  have t2 : 1 ≤ m := by omega
  have t3 : (32 : Int) - (m : Int) = (n : Int) := by omega
  have t4 : n ≤ 31 := by omega
  have t5 : 1 ≤ n := by omega
  clear hn hm hr
  go_enter Try.func52, Try.ntmps52
  go_wp2
  go_ret
  exact ⟨rfl, rfl⟩
theorem turned_any (x : Int) (n : Nat) (hx : 0 ≤ x ∧ x < 4294967296) (h1 : 1 ≤ n ∧ n ≤ 31) (w : World) :
    Calls Try.prog 45 #[.int .u32 x, .int .u64 (n : Int)] w fun e w' => e = .returned (.int .u32 (rotk x (-(n : Int)))) ∧ w = w' := by
  have hr : rotk x (-(n : Int)) = bits .or .u32 (x / 2 ^ n) (x * 2 ^ (32 - n) % 4294967296) := by
    unfold rotk
    rw [Int.neg_neg, Int.toNat_natCast]
  rw [hr]
  clear hr
  go_enter Try.func45, Try.ntmps45
  go_wp2
  go_ret
  exact ⟨rfl, rfl⟩
theorem turned_lit (x n : Int) (hx : 0 ≤ x ∧ x < 4294967296) (h1 : 1 ≤ n ∧ n ≤ 31) (w : World) :
    Calls Try.prog 45 #[.int .u32 x, .int .u64 n] w fun e w' => e = .returned (.int .u32 (rotk x (-n))) ∧ w = w' := by
  obtain ⟨m, rfl⟩ : ∃ m : Nat, n = m := ⟨n.toNat, by omega⟩
  exact turned_any x m hx (by omega) w

/-! ### What one round, one block does -/
def sx (p : Int) : Int := bits .xor .u32 (bits .xor .u32 (rotk p (-7)) (rotk p (-18))) (p / 8)
def sy (q : Int) : Int := bits .xor .u32 (bits .xor .u32 (rotk q (-17)) (rotk q (-19))) (q / 1024)
def wnx (a b p q : Int) : Int := (a + b + sx p + sy q) % 4294967296
def be (e : Int) : Int := bits .xor .u32 (bits .xor .u32 (rotk e (-6)) (rotk e (-11))) (rotk e (-25))
def notI (e : Int) : Int := bits .xor .u32 IntKind.u32.max e
def ch (e f g : Int) : Int := bits .xor .u32 (bits .and .u32 e f) (bits .and .u32 (notI e) g)
def ba (a : Int) : Int := bits .xor .u32 (bits .xor .u32 (rotk a (-2)) (rotk a (-13))) (rotk a (-22))
def mj (a b c : Int) : Int := bits .xor .u32 (bits .xor .u32 (bits .and .u32 a b) (bits .and .u32 a c)) (bits .and .u32 b c)
structure St where
  a : Int
  b : Int
  c : Int
  d : Int
  e : Int
  f : Int
  g : Int
  h : Int
def St.cells (s : St) : List Value := [.int .u32 s.a, .int .u32 s.b, .int .u32 s.c, .int .u32 s.d, .int .u32 s.e, .int .u32 s.f, .int .u32 s.g, .int .u32 s.h]
def St.ok (s : St) : Prop := (0 ≤ s.a ∧ s.a < 4294967296) ∧ (0 ≤ s.b ∧ s.b < 4294967296) ∧ (0 ≤ s.c ∧ s.c < 4294967296) ∧ (0 ≤ s.d ∧ s.d < 4294967296) ∧ (0 ≤ s.e ∧ s.e < 4294967296) ∧ (0 ≤ s.f ∧ s.f < 4294967296) ∧ (0 ≤ s.g ∧ s.g < 4294967296) ∧ (0 ≤ s.h ∧ s.h < 4294967296)
def rS (s : St) (k w : Int) : Int := (s.h + be s.e + ch s.e s.f s.g + k + w) % 4294967296
def rT (s : St) : Int := (ba s.a + mj s.a s.b s.c) % 4294967296
def St.step (s : St) (k w : Int) : St := ⟨(rS s k w + rT s) % 4294967296, s.a, s.b, s.c, (s.d + rS s k w) % 4294967296, s.e, s.f, s.g⟩
def rnds (K W : List Int) (s : St) : Nat → St
  | 0 => s
  | i + 1 => (rnds K W s i).step (K.getD i 0) (W.getD i 0)
def St.plus (s t : St) : St := ⟨(s.a + t.a) % 4294967296, (s.b + t.b) % 4294967296, (s.c + t.c) % 4294967296, (s.d + t.d) % 4294967296, (s.e + t.e) % 4294967296, (s.f + t.f) % 4294967296, (s.g + t.g) % 4294967296, (s.h + t.h) % 4294967296⟩
/-- Four bytes as a number, the highest first. -/
def wordI (l : List Nat) (i : Nat) : Int :=
  bits .or .u32 (bits .or .u32 (bits .or .u32 ((l.getD (4 * i) 0 : Nat) * 16777216) ((l.getD (4 * i + 1) 0 : Nat) * 65536)) ((l.getD (4 * i + 2) 0 : Nat) * 256)) (l.getD (4 * i + 3) 0 : Nat)
def wFirst (l : List Nat) : Nat → List Int
  | 0 => []
  | i + 1 => wFirst l i ++ [wordI l i]
def wMore (l : List Nat) : Nat → List Int
  | 0 => wFirst l 16
  | i + 1 => wMore l i ++ [wnx ((wMore l i).getD i 0) ((wMore l i).getD (i + 9) 0) ((wMore l i).getD (i + 1) 0) ((wMore l i).getD (i + 14) 0)]
/-- What a block of 64 bytes makes of a state. -/
def blkS (K : List Int) (s : St) (l : List Nat) : St := s.plus (rnds K (wMore l 48) s 64)

theorem wFirst_len (l : List Nat) : ∀ i, (wFirst l i).length = i
  | 0 => rfl
  | i + 1 => by simp [wFirst, wFirst_len l i]
theorem wMore_len (l : List Nat) : ∀ i, (wMore l i).length = 16 + i
  | 0 => wFirst_len l 16
  | i + 1 => by simp [wMore, wMore_len l i]; omega
theorem mod_in (z : Int) : 0 ≤ z % 4294967296 ∧ z % 4294967296 < 4294967296 := by omega
def AllU (l : List Int) : Prop := ∀ z ∈ l, 0 ≤ z ∧ z < 4294967296
theorem AllU.at {l : List Int} (h : AllU l) (i : Nat) : 0 ≤ l.getD i 0 ∧ l.getD i 0 < 4294967296 := by
  by_cases hi : i < l.length
  · exact h _ (by simp [List.getD, hi])
  · simp [List.getD, List.getElem?_eq_none (show l.length ≤ i by omega)]
theorem AllU.snoc {l : List Int} (h : AllU l) {z : Int} (hz : 0 ≤ z ∧ z < 4294967296) : AllU (l ++ [z]) := by
  intro y hy
  rcases List.mem_append.1 hy with q | q
  · exact h y q
  · simp at q; rw [q]; exact hz
theorem wFirst_in (l : List Nat) : ∀ i, AllU (wFirst l i)
  | 0 => by intro y hy; simp [wFirst] at hy
  | i + 1 => (wFirst_in l i).snoc (u32_in _ _ _)
theorem wMore_in (l : List Nat) : ∀ i, AllU (wMore l i)
  | 0 => wFirst_in l 16
  | i + 1 => (wMore_in l i).snoc (mod_in _)
theorem St.step_ok {s : St} (h : s.ok) (k w : Int) : (s.step k w).ok := ⟨mod_in _, h.1, h.2.1, h.2.2.1, mod_in _, h.2.2.2.2.1, h.2.2.2.2.2.1, h.2.2.2.2.2.2.1⟩
theorem rnds_ok (K W : List Int) {s : St} (h : s.ok) : ∀ i, (rnds K W s i).ok
  | 0 => h
  | i + 1 => St.step_ok (rnds_ok K W h i) _ _
theorem plus_ok (s t : St) : (s.plus t).ok := ⟨mod_in _, mod_in _, mod_in _, mod_in _, mod_in _, mod_in _, mod_in _, mod_in _⟩

/-- An array of numbers in a block of its own, the first of them known. -/
def ArrU (w : World) (g T n : Nat) (l : List Int) : Prop := ∃ C, HasB w g C T ∧ C.size = n ∧ ∀ i, i < l.length → C[i]? = some (.int .u32 (l.getD i 0))
theorem ArrU.at {w : World} {g T n : Nat} {l : List Int} (h : ArrU w g T n l) (i : Nat) (hi : i < l.length) : w.cell? ⟨g, i, none⟩ = some (.int .u32 (l.getD i 0)) := by
  obtain ⟨C, hb, _, hc⟩ := h
  rw [hb.at]; exact hc i hi
theorem ArrU.lt {w : World} {g T n : Nat} {l : List Int} (h : ArrU w g T n l) : g < w.heap.size := by obtain ⟨C, hb, _⟩ := h; exact hb.lt
theorem ArrU.free {w : World} {g T n : Nat} {l : List Int} (h : ArrU w g T n l) (i : Nat) : w.frozen? ⟨g, i, none⟩ = false := by obtain ⟨C, hb, _⟩ := h; exact hb.free i
theorem ArrU.any {w : World} {g T n : Nat} {l : List Int} (h : ArrU w g T n l) (i : Nat) (hi : i < n) : ∃ v, w.cell? ⟨g, i, none⟩ = some v := by
  obtain ⟨C, hb, h0, _⟩ := h
  exact ⟨C[i]'(by omega), by rw [hb.at]; exact Array.getElem?_eq_getElem (by omega)⟩
theorem ArrU.drew {w : World} {g T n : Nat} {l : List Int} (h : ArrU w g T n l) : ArrU w.drew g T n l := h
theorem ArrU.kept {w w' : World} {g T n : Nat} {l : List Int} (h : ArrU w g T n l) {row : Option Nat} (hg : w.grownBy w' row) (hne : row ≠ some g) : ArrU w' g T n l := by
  obtain ⟨C, hb, h0, hc⟩ := h
  exact ⟨C, hb.kept hg (fun e => hne e.symm), h0, hc⟩
theorem ArrU.put {w : World} {g T n : Nat} {l : List Int} (h : ArrU w g T n l) (i : Nat) (hi : i = l.length) (hn : i < n) (z : Int) : ArrU (w.setCell ⟨g, i, none⟩ (.int .u32 z)) g T n (l ++ [z]) := by
  obtain ⟨C, hb, h0, hc⟩ := h
  subst hi
  refine ⟨_, hb.set _ _, by simpa using h0, fun j hj => ?_⟩
  rw [Array.getElem?_setIfInBounds]
  simp at hj
  by_cases he : l.length = j
  · subst he; rw [if_pos rfl, if_pos (by omega)]; simp [List.getD]
  · rw [if_neg he, hc j (by omega)]
    simp [List.getD, List.getElem?_append_left (show j < l.length by omega)]

end Go.Proofs.Ytkdjimcpdbpemaa
