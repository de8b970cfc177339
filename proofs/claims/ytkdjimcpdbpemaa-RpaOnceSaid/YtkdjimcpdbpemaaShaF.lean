/- sha: what is summed (plain); start, add. -/
import Derived.Test.YtkdjimcpdbpemaaShaE
import Derived.Test.YtkdjimcpdbpemaaRowsC
import Derived.Test.YtkdjimcpdbpemaaAppZ
import Derived.Test.YtkdjimcpdbpemaaAppW
namespace Go.Proofs.Ytkdjimcpdbpemaa
open Go Go.RowKit
set_option linter.unusedVariables false

/-! ### Plain -/
def chunk64 (l : List Nat) (q : Nat) : List Nat := (l.drop (64 * q)).take 64
def blocksS (s : St) (l : List Nat) : Nat → St
  | 0 => s
  | q + 1 => blkS KL (blocksS s l q) (chunk64 l q)
def runB (s : St) (l : List Nat) : St := blocksS s l (l.length / 64)
def restB (l : List Nat) : List Nat := l.drop (64 * (l.length / 64))
theorem restB_len (l : List Nat) : (restB l).length = l.length % 64 := by simp [restB]; omega
theorem restB_lt {l : List Nat} (h : ∀ c ∈ l, c < 256) : ∀ c ∈ restB l, c < 256 := fun c hc => h c (List.mem_of_mem_drop hc)
theorem blocksS_ok {s : St} (h : s.ok) (l : List Nat) : ∀ q, (blocksS s l q).ok
  | 0 => h
  | q + 1 => plus_ok _ _
theorem runB_ok {s : St} (h : s.ok) (l : List Nat) : (runB s l).ok := blocksS_ok h l _
theorem chunk64_left (l r : List Nat) (q : Nat) (h : 64 * q + 64 ≤ l.length) : chunk64 (l ++ r) q = chunk64 l q := by
  unfold chunk64
  rw [List.drop_append_of_le_length (by omega), List.take_append_of_le_length (by rw [List.length_drop]; omega)]
theorem blocksS_left (s : St) (l r : List Nat) : ∀ q, 64 * q ≤ l.length → blocksS s (l ++ r) q = blocksS s l q
  | 0, _ => rfl
  | q + 1, h => by rw [blocksS, blocksS, blocksS_left s l r q (by omega), chunk64_left l r q (by omega)]
theorem blocksS_drop (s : St) (l : List Nat) (p : Nat) : ∀ q, blocksS s l (p + q) = blocksS (blocksS s l p) (l.drop (64 * p)) q
  | 0 => rfl
  | q + 1 => by
    rw [← Nat.add_assoc, blocksS, blocksS, blocksS_drop s l p q]
    unfold chunk64
    rw [List.drop_drop, show 64 * p + 64 * q = 64 * (p + q) by omega]
/-- Written behind one another: as all at once. -/
theorem run_append (s : St) (l r : List Nat) : runB (runB s l) (restB l ++ r) = runB s (l ++ r) ∧ restB (restB l ++ r) = restB (l ++ r) := by
  have hd : (l ++ r).drop (64 * (l.length / 64)) = restB l ++ r := by
    unfold restB
    rw [List.drop_append_of_le_length (by omega)]
  have hlen : (restB l ++ r).length = l.length % 64 + r.length := by rw [List.length_append, restB_len]
  have hq : (l ++ r).length / 64 = l.length / 64 + (restB l ++ r).length / 64 := by
    rw [hlen, List.length_append]; omega
  constructor
  · unfold runB
    rw [hq, blocksS_drop, hd, blocksS_left s l r _ (by omega)]
  · rw [show restB (l ++ r) = (l ++ r).drop (64 * ((l ++ r).length / 64)) by rfl, hq, show 64 * (l.length / 64 + (restB l ++ r).length / 64) = 64 * (l.length / 64) + 64 * ((restB l ++ r).length / 64) by omega, ← List.drop_drop, hd]
    rfl

/-! ### The state in memory -/
/-- A state at a block's begin: the numbers, the row of what is no whole block yet, how many there were. -/
def MidW (w : World) (B g T : Nat) (s : St) (rest : List Nat) (n : Nat) (tail : List Value) : Prop :=
  ∃ v, HeadU w g T s.list (v :: .int .u64 (n : Int) :: tail) ∧ w.ownsRow B 5 1 v rest.length (u8s rest)

theorem own_ne {w : World} {B g : Nat} {C : Array Value} {T e : TypeId} {v : Value} {n : Nat} {xs : List Value} (h : w.ownsRow B e 1 v n xs) (hb : HasB w g C T) (hT : T ≠ e) : v.ownBlock ≠ some g := by
  rcases h.2 with ⟨rfl, _⟩ | ⟨g', cap, cur, rfl, _, hh, _⟩
  · simp [Value.ownBlock]
  · intro q
    simp [Value.ownBlock] at q
    subst q
    rw [show w.heap[g']? = _ from hb] at hh
    simp at hh
    exact hT hh.2
theorem HeadU.putTail {w : World} {g T : Nat} {l : List Int} {tail : List Value} (h : HeadU w g T l tail) (i : Nat) (v : Value) : HeadU (w.setCell ⟨g, l.length + i, none⟩ v) g T l (tail.set i v) := by
  have h' := HasB.set h (l.length + i) v
  have e : (cellsU l ++ tail).toArray.setIfInBounds (l.length + i) v = (cellsU l ++ tail.set i v).toArray := by
    rw [List.setIfInBounds_toArray, List.set_append_right _ _ (by rw [cellsU_len]; omega), cellsU_len, Nat.add_sub_cancel_left]
  rw [e] at h'
  exact h'
theorem st_len (s : St) : s.list.length = 8 := rfl

/-- start. -/
theorem start_any (g T : Nat) (l0 : List Int) (hl0 : l0.length = 8) (v0 n0 : Value) (tail : List Value) (w : World) (h : HeadU w g T l0 (v0 :: n0 :: tail)) :
    Calls Try.prog 50 #[.pointer (some ⟨g, 0, none⟩)] w fun e w' => e = .returned (.tuple #[]) ∧ HeadU w' g T H0.list (.slice none 0 0 :: .int .u64 0 :: tail) ∧ w.grownBy w' (some g) := by
  have hb : HasB w g _ T := h
  obtain ⟨z0, z1, z2, z3, z4, z5, z6, z7, rfl⟩ := list8 hl0
  have c0 := HasB.at h 0
  have c1 := HasB.at h 1
  have c2 := HasB.at h 2
  have c3 := HasB.at h 3
  have c4 := HasB.at h 4
  have c5 := HasB.at h 5
  have c6 := HasB.at h 6
  have c7 := HasB.at h 7
  have c8 := HasB.at h 8
  have c9 := HasB.at h 9
  simp [cellsU] at c0 c1 c2 c3 c4 c5 c6 c7 c8 c9
  have f0 := HasB.free h 0
  have f1 := HasB.free h 1
  have f2 := HasB.free h 2
  have f3 := HasB.free h 3
  have f4 := HasB.free h 4
  have f5 := HasB.free h 5
  have f6 := HasB.free h 6
  have f7 := HasB.free h 7
  have f8 := HasB.free h 8
  have f9 := HasB.free h 9
  have HF : Hid (HeadU ((((((((((w.setCell ⟨g, 0, none⟩ (.int .u32 H0.a)).setCell ⟨g, 1, none⟩ (.int .u32 H0.b)).setCell ⟨g, 2, none⟩ (.int .u32 H0.c)).setCell ⟨g, 3, none⟩ (.int .u32 H0.d)).setCell ⟨g, 4, none⟩ (.int .u32 H0.e)).setCell ⟨g, 5, none⟩ (.int .u32 H0.f)).setCell ⟨g, 6, none⟩ (.int .u32 H0.g)).setCell ⟨g, 7, none⟩ (.int .u32 H0.h)).setCell ⟨g, 8, none⟩ (.slice none 0 0)).setCell ⟨g, 9, none⟩ (.int .u64 0)) g T H0.list (.slice none 0 0 :: .int .u64 0 :: tail) ∧ w.grownBy ((((((((((w.setCell ⟨g, 0, none⟩ (.int .u32 H0.a)).setCell ⟨g, 1, none⟩ (.int .u32 H0.b)).setCell ⟨g, 2, none⟩ (.int .u32 H0.c)).setCell ⟨g, 3, none⟩ (.int .u32 H0.d)).setCell ⟨g, 4, none⟩ (.int .u32 H0.e)).setCell ⟨g, 5, none⟩ (.int .u32 H0.f)).setCell ⟨g, 6, none⟩ (.int .u32 H0.g)).setCell ⟨g, 7, none⟩ (.int .u32 H0.h)).setCell ⟨g, 8, none⟩ (.slice none 0 0)).setCell ⟨g, 9, none⟩ (.int .u64 0)) (some g)) := Lib.hid (by
    refine ⟨?_, gb_set (gb_set (gb_set8 (gb_refl _ _) _ _ _ _ _ _ _ _) 8 _) 9 _⟩
    have q0 := ((((((((h.put 0 (by simp) H0.a).put 1 (by simp) H0.b).put 2 (by simp) H0.c).put 3 (by simp) H0.d).put 4 (by simp) H0.e).put 5 (by simp) H0.f).put 6 (by simp) H0.g).put 7 (by simp) H0.h)
    have q1 := (q0.putTail 0 (.slice none 0 0)).putTail 1 (.int .u64 0)
    exact q1)
  clear h hb
  go_enter Try.func50, Try.ntmps50
  go_wp2
  go_end0
  exact ⟨rfl, HF.out⟩

theorem Bytes.dropAt {w : World} {b off len : Nat} {l : List Nat} (h : Bytes w (some ⟨b, off, none⟩) len l) (k : Nat) (hk : k ≤ len) : Bytes w (some ⟨b, off + k, none⟩) (len - k) (l.drop k) := by
  refine ⟨by simp [h.1], fun c hc => h.2.1 c (List.mem_of_mem_drop hc), fun h0 => ?_⟩
  obtain ⟨b', off', he, hlt, hc⟩ := h.2.2 (by omega)
  simp at he
  obtain ⟨rfl, rfl⟩ := he
  refine ⟨b, off + k, rfl, hlt, fun i hi => ?_⟩
  have := hc (k + i) (by omega)
  rw [show off + k + i = off + (k + i) by omega, this]
  simp [List.getD]

/-- Blocks that are no rows of bytes, and not g, are as they were. -/
def Keeps (w w' : World) (g : Nat) : Prop := ∀ (r : Nat) (C : Array Value) (Tr : TypeId), HasB w r C Tr → Tr ≠ 5 → r ≠ g → HasB w' r C Tr
theorem Keeps.refl (w : World) (g : Nat) : Keeps w w g := fun _ _ _ h _ _ => h
theorem Keeps.set {w w' : World} {g : Nat} (h : Keeps w w' g) (i : Nat) (v : Value) : Keeps w (w'.setCell ⟨g, i, none⟩ v) g := fun r C Tr q1 q2 q3 => (h r C Tr q1 q2 q3).set_other q3 v
theorem Keeps.app {w w1 w' : World} {g B : Nat} (h : Keeps w w1 g) {v : Value} {n : Nat} {xs : List Value} (ho : w1.ownsRow B 5 1 v n xs) (hg : w1.grownBy w' v.ownBlock) : Keeps w w' g := fun r C Tr q1 q2 q3 => (h r C Tr q1 q2 q3).kept hg (fun e => own_ne ho (h r C Tr q1 q2 q3) q2 e.symm)
theorem Keeps.own {w w1 w' : World} {g : Nat} (h : Keeps w w1 g) (hg : w1.grownBy w' (some g)) : Keeps w w' g := fun r C Tr q1 q2 q3 => (h r C Tr q1 q2 q3).kept hg (by simp; exact q3)
theorem Keeps.alloc {w w1 : World} {g : Nat} (h : Keeps w w1 g) (o : Obj) : Keeps w (w1.alloc o) g := fun r C Tr q1 q2 q3 => (h r C Tr q1 q2 q3).alloc o
/-- The digest's row of what is no whole block yet lies apart from u. -/
def RestAt (w : World) (g : Nat) (u : Value) : Prop := ∀ v, w.cell? ⟨g, 8, none⟩ = some v → Apart v u
/-- Rows of bytes that lie apart from the digest's are as they were, and apart. -/
def KeepR (w w' : World) (g : Nat) : Prop := ∀ (base : Nat) (u : Value) (n : Nat) (xs : List Value), w.ownsRow base 5 1 u n xs → RestAt w g u → w'.ownsRow base 5 1 u n xs ∧ RestAt w' g u
theorem KeepR.refl (w : World) (g : Nat) : KeepR w w g := fun _ _ _ _ h1 h2 => ⟨h1, h2⟩
theorem KeepR.trans {w w1 w2 : World} {g : Nat} (h : KeepR w w1 g) (h' : KeepR w1 w2 g) : KeepR w w2 g := fun base u n xs h1 h2 => h' base u n xs (h base u n xs h1 h2).1 (h base u n xs h1 h2).2
theorem KeepR.own {w1 w2 : World} {g T : Nat} {C : Array Value} (hT : T ≠ 5) (hb : HasB w1 g C T) (hg : w1.grownBy w2 (some g)) (hc : w2.cell? ⟨g, 8, none⟩ = w1.cell? ⟨g, 8, none⟩) : KeepR w1 w2 g := fun base u n xs h1 h2 =>
  ⟨h1.kept hg (.inr (own_ne h1 hb hT)), fun v hv => h2 v (by rw [← hc]; exact hv)⟩
theorem KeepR.app {w1 w2 : World} {g T : Nat} {C : Array Value} {v v2 : Value} (hT : T ≠ 5) (h8 : w1.cell? ⟨g, 8, none⟩ = some v) (hg : w1.grownBy w2 v.ownBlock) (hp : v2.ownBlock = v.ownBlock ∨ v2.ownBlock = some w1.heap.size) (hb : HasB w2 g C T) (h8' : (w2.setCell ⟨g, 8, none⟩ v2).cell? ⟨g, 8, none⟩ = some v2) : KeepR w1 (w2.setCell ⟨g, 8, none⟩ v2) g := by
  intro base u m ys h1 h2
  obtain ⟨k1, k2⟩ := apart_app h1 (h2 v h8) hg hp
  refine ⟨k1.kept (gb_set (gb_refl w2 (some g)) 8 v2) (.inr (own_ne k1 hb hT)), fun v' hv => ?_⟩
  rw [h8'] at hv
  cases hv
  exact k2
theorem KeepR.fresh {w1 w2 : World} {g T : Nat} {C : Array Value} {v2 : Value} {o : Obj} (hT : T ≠ 5) (hg : (w1.alloc o).grownBy w2 (some w1.heap.size)) (hp : v2.ownBlock = some w1.heap.size ∨ v2.ownBlock = some (w1.alloc o).heap.size) (hb : HasB w2 g C T) (h8' : (w2.setCell ⟨g, 8, none⟩ v2).cell? ⟨g, 8, none⟩ = some v2) : KeepR w1 (w2.setCell ⟨g, 8, none⟩ v2) g := by
  intro base u m ys h1 h2
  have h1' := own_below h1 ((Below.refl w1.heap.size w1).alloc (Nat.le_refl _) o) (Nat.le_refl _)
  have k1 := h1'.kept hg (.inr (fun e => by have := (h1.lt _ e).2; omega))
  refine ⟨k1.kept (gb_set (gb_refl w2 (some g)) 8 v2) (.inr (own_ne k1 hb hT)), fun v' hv => ?_⟩
  rw [h8'] at hv
  cases hv
  intro b hb1 hb2
  have hlt := (h1.lt b hb2).2
  rcases hp with q | q
  · rw [q] at hb1; cases hb1; omega
  · rw [q] at hb1; cases hb1; simp at hlt; omega
def lenOf : Option Value → Nat
  | some (.slice _ n _) => n
  | _ => 0
set_option maxRecDepth 100000 in
set_option maxHeartbeats 40000000 in
theorem add_anyR (B g T : Nat) (hT : T ≠ 5) (s : St) (rest : List Nat) (n : Nat) (tail : List Value) (a : Option Addr) (len cap : Nat) (b : List Nat) (w : World) (hs : s.ok) (h : MidW w B g T s rest n tail) (hB : B ≤ g) (hBw : B ≤ w.heap.size) (hr8 : ∀ c ∈ rest, c < 256) (hi : Bytes w a len b) (hnil : a = none → cap = 0) (ha : 0 < len → ∀ ad, a = some ad → ad.block ≠ g) (hrl : rest.length ≤ 100000) (hbl : len ≤ 100000) (hn : n ≤ 100000000) :
    Calls Try.prog 40 #[.pointer (some ⟨g, 0, none⟩), .slice a len cap] w fun e w' => e = .returned (.tuple #[]) ∧ MidW w' B g T (runB s (rest ++ b)) (restB (rest ++ b)) (n + len) tail ∧ Below B w w' ∧ Keeps w w' g ∧ KeepR w w' g := by
  obtain ⟨v, hH, hown⟩ := h
  have hlb := hi.1
  have hb8 := hi.2.1
  obtain ⟨R, hR⟩ : ∃ R, R = rest.length := ⟨_, rfl⟩
  rw [← hR] at hown hrl
  have c8 : w.cell? ⟨g, 8, none⟩ = some v := hH.tail 0
  have c9 : w.cell? ⟨g, 9, none⟩ = some (.int .u64 (n : Int)) := hH.tail 1
  have f8 := HasB.free hH 8
  have f9 := HasB.free hH 9
  have hbk : w.grownBy (w.setCell ⟨g, 9, none⟩ (.int .u64 ((n + len : Nat) : Int))) (some g) := gb_set (gb_refl _ _) 9 _
  have hH1 : HeadU (w.setCell ⟨g, 9, none⟩ (.int .u64 ((n + len : Nat) : Int))) g T s.list (v :: .int .u64 ((n + len : Nat) : Int) :: tail) := hH.putTail 1 _
  have hown1 := hown.kept hbk (.inr (own_ne hown hH hT))
  have hi1 : Bytes (w.setCell ⟨g, 9, none⟩ (.int .u64 ((n + len : Nat) : Int))) a len b := hi.setOther (fun h0 ad he => ha h0 ad he) _
  have hB1 : Below B w (w.setCell ⟨g, 9, none⟩ (.int .u64 ((n + len : Nat) : Int))) := (Below.refl _ _).setCell hB _
  have e9 : ((n : Int) + (len : Int)) = ((n + len : Nat) : Int) := by omega
  have u9 : IntKind.u64.wrap ((n : Int) + (len : Int)) = ((n + len : Nat) : Int) := by rw [IntKind.wrap_u64]; omega
  obtain ⟨N, hN⟩ : ∃ N, N = n + len := ⟨_, rfl⟩
  rw [← hN] at hbk hH1 hown1 hi1 hB1 e9 u9
  have HH1 := Lib.hid hH1
  have HO1 := Lib.hid hown1
  have HI1 := Lib.hid hi1
  have HB1 := Lib.hid hB1
  have HK1 : Hid (Keeps w (w.setCell ⟨g, 9, none⟩ (.int .u64 (N : Int))) g) := Lib.hid ((Keeps.refl w g).set 9 _)
  have HQ1 : Hid (KeepR w (w.setCell ⟨g, 9, none⟩ (.int .u64 (N : Int))) g) := Lib.hid (KeepR.own hT hH (gb_set (gb_refl w (some g)) 9 _) (by rw [c8]; exact hH1.tail 0))
  have HR8 := Lib.hid hr8
  have HS := Lib.hid hs
  have HRl := Lib.hid hR
  have HNn := Lib.hid hN
  obtain ⟨v', vc, rfl⟩ := own_form hown
  have t0 : (len : Int) ≤ 100000 := by omega
  have t1 : (n : Int) ≤ 100000000 := by omega
  have hv8 : (w.setCell ⟨g, 9, none⟩ (.int .u64 (N : Int))).cell? ⟨g, 8, none⟩ = some (.slice v' R vc) := hH1.tail 0
  have hf8 := HasB.free hH1 8
  clear hH hown hH1 hown1 hi1 hB1 hbk hi hr8 hs hR hN ha
  go_enter Try.func40, Try.ntmps40
  go_wp2_with (at_builtin; refine Stop.mk ?_)
  refine Stop.go ?_
  refine wpList_appW rfl (.tmp 18) (.tmp 19) 50 rfl B 5 Try.underlying50 (by kernel_rfl) (.slice v' R vc) R rest rfl HO1.out a len cap b rfl HI1.out hnil (by omega) (by simpa using hBw) ?_
  intro v2 w2 hown2 hgrow2 hpl2
  obtain ⟨a2, cp2, rfl⟩ := own_form hown2
  have hne := own_ne HO1.out HH1.out hT
  have hH2 : HeadU w2 g T s.list (.slice v' R vc :: .int .u64 (N : Int) :: tail) := HasB.kept HH1.out hgrow2 (fun e => hne e.symm)
  have hB2 : Below B w w2 := HB1.out.grown hgrow2 (by simpa using hBw) (fun k hk => (HO1.out.lt k hk).1)
  have c8 : w2.cell? ⟨g, 8, none⟩ = some (.slice v' R vc) := hH2.tail 0
  have f8 := HasB.free hH2 8
  have hH3 : HeadU (w2.setCell ⟨g, 8, none⟩ (.slice a2 (R + len) cp2)) g T s.list (.slice a2 (R + len) cp2 :: .int .u64 (N : Int) :: tail) := hH2.putTail 0 _
  have hown3 := hown2.kept (gb_set (gb_refl w2 (some g)) 8 (.slice a2 (R + len) cp2)) (.inr (own_ne hown2 hH2 hT))
  have hB3 : Below B w (w2.setCell ⟨g, 8, none⟩ (.slice a2 (R + len) cp2)) := hB2.setCell hB _
  have hR := HRl.out
  have hlen0 : (rest ++ b).length = R + len := by rw [List.length_append, hR, hlb]
  have HMid : Hid (MidW (w2.setCell ⟨g, 8, none⟩ (.slice a2 (R + len) cp2)) B g T (blocksS s (rest ++ b) 0) ((rest ++ b).drop (64 * 0)) N tail) := Lib.hid ⟨_, hH3, by rw [Nat.mul_zero, List.drop_zero, hlen0]; exact hown3⟩
  have HB3 := Lib.hid hB3
  have HK3 : Hid (Keeps w (w2.setCell ⟨g, 8, none⟩ (.slice a2 (R + len) cp2)) g) := Lib.hid ((HK1.out.app HO1.out hgrow2).set 8 _)
  have HQ3 : Hid (KeepR w (w2.setCell ⟨g, 8, none⟩ (.slice a2 (R + len) cp2)) g) := Lib.hid (HQ1.out.trans (KeepR.app hT (HH1.out.tail 0) hgrow2 hpl2 hH2 (hH3.tail 0)))
  have HL8 : Hid (∀ c ∈ rest ++ b, c < 256) := Lib.hid (fun c hc => by
    rcases List.mem_append.1 hc with q | q
    · exact HR8.out c q
    · exact hb8 c q)
  have HBw2 : Hid (B ≤ w2.heap.size) := Lib.hid (by have := hB2.size; have := HB1.out.size; omega)
  obtain ⟨L, hL⟩ : ∃ L, L = rest ++ b := ⟨_, rfl⟩
  rw [← hL] at hlen0 HMid HL8
  have HLe := Lib.hid hL
  clear hown2 hgrow2 hpl2 hne hH2 hB2 hH3 hown3 hB3 hL hR HO1 HI1 HH1 HB1 HR8 hv8 hf8
  go_wp2_with fail
  go_loopw [23] (fun x wr => ∃ q : Nat, 64 * q ≤ R + len ∧ Hid (MidW wr B g T (blocksS s L q) (L.drop (64 * q)) N tail) ∧ Hid (Below B w wr) ∧ Hid (B ≤ wr.heap.size) ∧ Hid (Keeps w wr g) ∧ Hid (KeepR w wr g)) (fun _ wr => lenOf (wr.cell? ⟨g, 8, none⟩))
  case atStart => exact ⟨0, by omega, HMid, HB3, Lib.hid (by simpa using HBw2.out), HK3, HQ3⟩
  case round =>
    clear HMid HB3 HBw2 c8 f8
    obtain ⟨q, hq, HMq, HBq, HBs, HKq, HQq⟩ := hrel
    obtain ⟨wo, rfl⟩ : ∃ wo : World, wo = wr := ⟨_, rfl⟩
    obtain ⟨v3, hH, hown⟩ := HMq.out
    have hdl : (L.drop (64 * q)).length = R + len - 64 * q := by rw [List.length_drop, hlen0]
    obtain ⟨D, hD⟩ : ∃ D, D = R + len - 64 * q := ⟨_, rfl⟩
    rw [hdl, ← hD] at hown
    obtain ⟨a3, cp3, rfl⟩ := own_form hown
    have hDb : D ≤ 200000 := by omega
    have c8 : wo.cell? ⟨g, 8, none⟩ = some (.slice a3 D cp3) := hH.tail 0
    have hm0 : lenOf (wo.cell? ⟨g, 8, none⟩) = D := by rw [c8]; rfl
    have HM0 := Lib.hid hm0
    by_cases hlt : 64 ≤ D
    · have t3 : (64 : Int) ≤ (D : Int) := by omega
      obtain ⟨g3, c3, hsh⟩ := own_shape hown (by omega)
      have hcp3 : D ≤ cp3 := by
        rcases hown.2 with ⟨h, h0⟩ | ⟨g', cap', cur, h, _, _, h3, h4, _⟩
        · omega
        · simp at h; obtain ⟨_, rfl⟩ := h; exact h3
      simp at hsh
      obtain ⟨rfl, rfl⟩ := hsh
      have hby := bytes_of_own hown (fun c hc => HL8.out c (List.mem_of_mem_drop hc))
      have HBy := Lib.hid hby
      have HH := Lib.hid hH
      have HOw := Lib.hid hown
      have HD := Lib.hid hD
      clear hH hown hdl hD hm0 hby
      go_wp2_with fail
      refine (mix_any g T (blocksS s L q) _ _ cp3 ((L.drop (64 * q)).take 64) _ (blocksS_ok HS.out L q) HH.out (HBy.out.take (by omega))).mono ?_
      rintro e w4 ⟨rfl, hH4, hG4⟩
      have hown4 := HOw.out.kept hG4 (.inr (own_ne HOw.out HH.out hT))
      have c8' : w4.cell? ⟨g, 8, none⟩ = some (.slice (some ⟨g3, 0, none⟩) D cp3) := hH4.tail 0
      have f8' := HasB.free hH4 8
      have HH4 : Hid (HeadU w4 g T (blocksS s L (q + 1)).list (.slice (some ⟨g3, 0, none⟩) D cp3 :: .int .u64 (N : Int) :: tail)) := Lib.hid hH4
      have hy4 := bytes_of_own hown4 (fun c hc => HL8.out c (List.mem_of_mem_drop hc))
      have HY4 : Hid (Bytes w4 (some ⟨g3, 64, none⟩) (D - 64) ((L.drop (64 * q)).drop 64)) := Lib.hid (by
        have := hy4.dropAt 64 (by omega)
        simpa using this)
      have HB4 : Hid (Below B w w4) := Lib.hid (below_gb HBq.out hG4 HBs.out hB)
      have HBs4 : Hid (B ≤ w4.heap.size) := Lib.hid (Nat.le_trans HBs.out hG4.size)
      have hHa : HeadU (w4.alloc (.cells #[] 5)) g T (blocksS s L (q + 1)).list (.slice (some ⟨g3, 0, none⟩) D cp3 :: .int .u64 (N : Int) :: tail) := HasB.alloc HH4.out _
      have c8a : (w4.alloc (.cells #[] 5)).cell? ⟨g, 8, none⟩ = some (.slice (some ⟨g3, 0, none⟩) D cp3) := hHa.tail 0
      have HHa := Lib.hid hHa
      have HQ4 : Hid (KeepR w w4 g) := Lib.hid (HQq.out.trans (KeepR.own hT HH.out hG4 (by rw [c8']; exact c8.symm)))
      have HK4 : Hid (Keeps w (w4.alloc (.cells #[] 5)) g) := Lib.hid ((HKq.out.own hG4).alloc _)
      clear hH4 hG4 hown4 hy4 hHa c8' f8'
      have HY0 : Hid (∀ w', D ≤ 64 → Bytes w' (some ⟨g3, 0, none⟩) (D - 64) ((L.drop (64 * q)).drop 64)) := Lib.hid (fun w' h => ⟨HY4.out.1, HY4.out.2.1, fun h0 => by omega⟩)
      have HC8 : Hid ((w4.alloc (.cells #[] 5)).cell? ⟨g, 8, none⟩ = some (.slice (some ⟨g3, 0, none⟩) D cp3)) := Lib.hid c8a
      go_wp2_with (at_builtin; refine Stop.mk ?_)
      all_goals
        refine Stop.go ?_
        first
          | refine wpList_appW rfl (.tmp 37) (.tmp 42) 50 rfl B 5 Try.underlying50 (by kernel_rfl) (.slice (some ⟨w4.heap.size, 0, none⟩) 0 0) 0 [] rfl (own_empty HBs4.out) (some ⟨g3, 64, none⟩) (D - 64) (cp3 - 64) ((L.drop (64 * q)).drop 64) rfl (HY4.out.alloc _) (by simp) (by omega) (le_alloc HBs4.out) ?_
          | refine wpList_appW rfl (.tmp 37) (.tmp 42) 50 rfl B 5 Try.underlying50 (by kernel_rfl) (.slice (some ⟨w4.heap.size, 0, none⟩) 0 0) 0 [] rfl (own_empty HBs4.out) (some ⟨g3, 0, none⟩) (D - 64) 0 ((L.drop (64 * q)).drop 64) rfl (HY0.out _ (by omega)) (by simp) (by omega) (le_alloc HBs4.out) ?_
        intro v5 w5 hown5 hgrow5 hpl5
        rw [Nat.zero_add, List.nil_append, List.drop_drop, show 64 * q + 64 = 64 * (q + 1) by omega] at hown5
        have hl5 : (L.drop (64 * (q + 1))).length = D - 64 := by rw [List.length_drop, hlen0]; have := HD.out; omega
        have hH5 : HeadU w5 g T (blocksS s L (q + 1)).list (.slice (some ⟨g3, 0, none⟩) D cp3 :: .int .u64 (N : Int) :: tail) := HasB.kept HHa.out hgrow5 (by have := HasB.lt HH4.out; simp [Value.ownBlock]; omega)
        have c8 : w5.cell? ⟨g, 8, none⟩ = some (.slice (some ⟨g3, 0, none⟩) D cp3) := hH5.tail 0
        have f8 := HasB.free hH5 8
        have hH6 : HeadU (w5.setCell ⟨g, 8, none⟩ v5) g T (blocksS s L (q + 1)).list (v5 :: .int .u64 (N : Int) :: tail) := hH5.putTail 0 _
        have hown6 := hown5.kept (gb_set (gb_refl w5 (some g)) 8 v5) (.inr (own_ne hown5 hH5 hT))
        have HM6 : Hid (MidW (w5.setCell ⟨g, 8, none⟩ v5) B g T (blocksS s L (q + 1)) (L.drop (64 * (q + 1))) N tail) := Lib.hid ⟨_, hH6, by rw [hl5]; exact hown6⟩
        have hBa : Below B w (w4.alloc (.cells #[] 5)) := HB4.out.alloc HBs4.out _
        have hB5 : Below B w w5 := hBa.grown hgrow5 (le_alloc HBs4.out) (fun k hk => by simp [Value.ownBlock] at hk; have := HBs4.out; omega)
        have HK6 : Hid (Keeps w (w5.setCell ⟨g, 8, none⟩ v5) g) := Lib.hid ((HK4.out.app (own_empty (base := 0) (Nat.zero_le _)) hgrow5).set 8 _)
        have HQ6 : Hid (KeepR w (w5.setCell ⟨g, 8, none⟩ v5) g) := Lib.hid (HQ4.out.trans (KeepR.fresh hT hgrow5 hpl5 hH5 (hH6.tail 0)))
        have HB6 : Hid (Below B w (w5.setCell ⟨g, 8, none⟩ v5)) := Lib.hid (hB5.setCell hB _)
        have HBs6 : Hid (B ≤ (w5.setCell ⟨g, 8, none⟩ v5).heap.size) := Lib.hid (by have := hgrow5.size; have := HBs4.out; simp at *; omega)
        obtain ⟨a5, cp5, rfl⟩ := own_form hown5
        have hm6 : lenOf ((w5.setCell ⟨g, 8, none⟩ (.slice a5 (D - 64) cp5)).cell? ⟨g, 8, none⟩) = D - 64 := by
          have := hH6.tail 0
          rw [st_len] at this
          rw [show (8 + 0 : Nat) = 8 by rfl] at this
          rw [this]; rfl
        have HM6' := Lib.hid hm6
        clear hown5 hgrow5 hpl5 hH5 hH6 hown6 hBa hB5 hm6 hl5
        go_wp2_with fail
        go_roundw
        case rel => exact ⟨q + 1, by have := HD.out; omega, HM6, HB6, HBs6, HK6, HQ6⟩
        case measure =>
          rw [HM6'.out, HM0.out]
          omega
    · have hlq : (rest ++ b).length / 64 = q := by rw [← HLe.out, hlen0]; omega
      have HFin : Hid (MidW wo B g T (runB s (rest ++ b)) (restB (rest ++ b)) (n + len) tail ∧ Below B w wo ∧ Keeps w wo g ∧ KeepR w wo g) := Lib.hid (by
        refine ⟨?_, HBq.out, HKq.out, HQq.out⟩
        unfold runB restB
        rw [hlq, ← HLe.out, ← HNn.out]
        exact HMq.out)
      have t3 : ¬ ((64 : Int) ≤ (D : Int)) := by omega
      clear hH hown hdl hD hm0 hlt hlq
      go_wp2_with fail
      go_end0
      exact ⟨rfl, HFin.out⟩

theorem add_any (B g T : Nat) (hT : T ≠ 5) (s : St) (rest : List Nat) (n : Nat) (tail : List Value) (a : Option Addr) (len cap : Nat) (b : List Nat) (w : World) (hs : s.ok) (h : MidW w B g T s rest n tail) (hB : B ≤ g) (hBw : B ≤ w.heap.size) (hr8 : ∀ c ∈ rest, c < 256) (hi : Bytes w a len b) (hnil : a = none → cap = 0) (ha : 0 < len → ∀ ad, a = some ad → ad.block ≠ g) (hrl : rest.length ≤ 100000) (hbl : len ≤ 100000) (hn : n ≤ 100000000) :
    Calls Try.prog 40 #[.pointer (some ⟨g, 0, none⟩), .slice a len cap] w fun e w' => e = .returned (.tuple #[]) ∧ MidW w' B g T (runB s (rest ++ b)) (restB (rest ++ b)) (n + len) tail ∧ Below B w w' ∧ Keeps w w' g := by
  refine (add_anyR B g T hT s rest n tail a len cap b w hs h hB hBw hr8 hi hnil ha hrl hbl hn).mono ?_
  rintro e w' ⟨h1, h2, h3, h4, _⟩
  exact ⟨h1, h2, h3, h4⟩

end Go.Proofs.Ytkdjimcpdbpemaa
