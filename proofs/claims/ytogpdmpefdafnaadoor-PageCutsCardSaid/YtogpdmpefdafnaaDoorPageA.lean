/- page: what the chapter says (plain); marks. -/
import Derived.Test.YtogpdmpefdafnaaDoorEccAE
import Derived.Test.YtogpdmpefdafnaaDoorRowsC
namespace Go.Proofs.YtogpdmpefdafnaaDoor
open Go Go.RowKit
set_option linter.unusedVariables false

def chunkAt (l : List Nat) (k : Nat) : List Nat := (l.drop (64 * k)).take 64
def padTo (l : List Nat) (n : Nat) : List Nat := l ++ List.replicate (n - l.length) 0
theorem padTo_len (l : List Nat) (n : Nat) (h : l.length ≤ n) : (padTo l n).length = n := by simp [padTo]; omega
theorem padTo_lt {l : List Nat} (h : ∀ c ∈ l, c < 256) (n : Nat) : ∀ c ∈ padTo l n, c < 256 := by
  intro c hc
  rcases List.mem_append.1 hc with q | q
  · exact h c q
  · have := List.eq_of_mem_replicate q; omega
theorem chunk_lt {l : List Nat} (h : ∀ c ∈ l, c < 256) (k : Nat) : ∀ c ∈ chunkAt l k, c < 256 := fun c hc => h c (List.mem_of_mem_drop (List.mem_of_mem_take hc))
theorem chunk_len (l : List Nat) (k : Nat) (h : 64 * k + 64 ≤ l.length) : (chunkAt l k).length = 64 := by simp [chunkAt]; omega
def layChunk (l : List Nat) (k : Nat) : List Nat := chunkAt l k ++ wordsOf (chunkAt l k) ++ [0]
def layTo (l : List Nat) : Nat → List Nat
  | 0 => []
  | k + 1 => layTo l k ++ layChunk l k
theorem layChunk_len (l : List Nat) (k : Nat) (h : 64 * k + 64 ≤ l.length) : (layChunk l k).length = 73 := by
  have := chunk_len l k h
  simp [layChunk, wordsOf, wordsTo_len, this]
theorem layTo_len (l : List Nat) : ∀ k, 64 * k ≤ l.length → (layTo l k).length = 73 * k
  | 0, _ => rfl
  | k + 1, h => by rw [layTo, List.length_append, layTo_len l k (by omega), layChunk_len l k (by omega)]; omega
theorem layChunk_lt {l : List Nat} (h : ∀ c ∈ l, c < 256) (k : Nat) : ∀ c ∈ layChunk l k, c < 256 := by
  intro c hc
  rcases List.mem_append.1 hc with q | q
  · rcases List.mem_append.1 q with q | q
    · exact chunk_lt h k c q
    · exact wordsTo_lt _ _ c q
  · simp at q; omega
theorem layTo_lt {l : List Nat} (h : ∀ c ∈ l, c < 256) : ∀ k, ∀ c ∈ layTo l k, c < 256
  | 0, c, hc => by simp [layTo] at hc
  | k + 1, c, hc => by
    rcases List.mem_append.1 hc with q | q
    · exact layTo_lt h k c q
    · exact layChunk_lt h k c q
def layOk (data : List Nat) (chunks : Int) : Bool := decide (1 ≤ chunks) && decide (chunks ≤ 8) && decide ((data.length : Int) ≤ 64 * chunks)
def layL5 (data : List Nat) (chunks : Int) : List Nat := if layOk data chunks then layTo (padTo data (64 * chunks.toNat)) chunks.toNat else []
def layE5 (data : List Nat) (chunks : Int) : Int := if layOk data chunks then 0 else 1

def markB (b : Nat) : Bool := decide (Ecc.pops b ≤ 4)
def marksTo (raw : List Nat) : Nat → Nat
  | 0 => 0
  | k + 1 => marksTo raw k + (if markB (raw.getD (73 * k + 72) 0) then 1 else 0)
theorem marksTo_le (raw : List Nat) : ∀ k, marksTo raw k ≤ k
  | 0 => Nat.le_refl _
  | k + 1 => by
    have := marksTo_le raw k
    rw [marksTo]
    split <;> omega
def rightP (raw : List Nat) : Bool := decide (raw.length % 73 = 0) && decide (73 ≤ raw.length) && decide (raw.length ≤ 584)
def stateP (raw : List Nat) : Int := if rightP raw then (if marksTo raw (raw.length / 73) = 0 then 0 else if marksTo raw (raw.length / 73) = raw.length / 73 then 2 else 1) else 3

def rawData (raw : List Nat) (k : Nat) : List Nat := (raw.drop (73 * k)).take 64
def rawChecks (raw : List Nat) (k : Nat) : List Nat := (raw.drop (73 * k + 64)).take 8
def readTo (raw : List Nat) : Nat → Option (List Nat × Nat)
  | 0 => some ([], 0)
  | k + 1 => addOn (readTo raw k) (mendAllS (rawData raw k) (rawChecks raw k))
theorem readTo_none {raw : List Nat} {k : Nat} (h : readTo raw k = none) : ∀ d, readTo raw (k + d) = none
  | 0 => h
  | d + 1 => by rw [← Nat.add_assoc, readTo, readTo_none h d, addOn_none]
theorem mendAllS_some {l c o : List Nat} {n : Nat} (h : mendAllS l c = some (o, n)) : o.length = l.length ∧ n ≤ c.length ∧ ∀ x ∈ o, x < 256 := by
  unfold mendAllS at h
  split at h
  · rename_i hc
    obtain ⟨h1, h2, h3⟩ := mendTo_len _ _ _ h
    exact ⟨by omega, h2, h3⟩
  · cases h
theorem readTo_some {raw : List Nat} : ∀ {k : Nat} {o : List Nat} {n : Nat}, 73 * k ≤ raw.length → readTo raw k = some (o, n) → o.length = 64 * k ∧ n ≤ 8 * k ∧ ∀ x ∈ o, x < 256
  | 0, o, n, _, h => by
    have h1 := Option.some.inj h
    have h2 : ([] : List Nat) = o := congrArg Prod.fst h1
    have h3 : (0 : Nat) = n := congrArg Prod.snd h1
    rw [← h2, ← h3]
    simp
  | k + 1, o, n, hr, h => by
    rw [readTo] at h
    obtain ⟨o1, n1, p, m, e1, e2, rfl, rfl⟩ := addOn_some h
    obtain ⟨h1, h2, h3⟩ := readTo_some (by omega) e1
    obtain ⟨g1, g2, g3⟩ := mendAllS_some e2
    have l1 : (rawData raw k).length = 64 := by simp [rawData]; omega
    have l2 : (rawChecks raw k).length = 8 := by simp [rawChecks]; omega
    refine ⟨by rw [List.length_append]; omega, by omega, ?_⟩
    intro x hx
    rcases List.mem_append.1 hx with q | q
    · exact h3 x q
    · exact g3 x q
def readOk (raw : List Nat) (bytes : Int) : Option (List Nat × Nat) :=
  if stateP raw = 2 then (if 0 ≤ bytes ∧ bytes ≤ 64 * ((raw.length / 73 : Nat) : Int) then readTo raw (raw.length / 73) else none) else none
def readS5 (raw : List Nat) (bytes : Int) : Int := if stateP raw = 2 then (if (readOk raw bytes).isSome then 2 else 3) else stateP raw
def readL5 (raw : List Nat) (bytes : Int) : List Nat := (outL (readOk raw bytes)).take bytes.toNat
def readN5 (raw : List Nat) (bytes : Int) : Nat := outN (readOk raw bytes)

/-! ### The walks of the marks -/
theorem mark_any (b : Nat) (hb : b < 256) (w : World) : Calls Tryd.prog 13 #[.int .u8 (b : Int)] w fun e w' => e = .returned (.bool (markB b)) ∧ w = w' := by
  have hd : decide ((Ecc.pops b : Int) ≤ 4) = markB b := by unfold markB; rw [decide_eq_decide]; omega
  have hle := pops_le b
  go_enter Tryd.func13, Tryd.ntmps13
  go_wp2_with (go_at_call 19; refine (ones8_any b hb _).mono ?_; rintro e w' ⟨rfl, rfl⟩)
  go_ret
  exact ⟨by rw [← hd]; rfl, rfl⟩

theorem right_page (a : Option Addr) (len cap : Nat) (l : List Nat) (w : World) (hi : Bytes w a len l) (hl : len ≤ 1000000) : Calls Tryd.prog 12 #[.slice a len cap] w fun e w' => e = .returned (.bool (rightP l)) ∧ w = w' := by
  have hr : rightP l = (decide (len % 73 = 0) && decide (73 ≤ len) && decide (len ≤ 584)) := by unfold rightP; rw [hi.1]
  rw [hr]
  by_cases h1 : len % 73 = 0
  · have t1 : (len : Int) % 73 = 0 := by omega
    by_cases h2 : 73 ≤ len
    · by_cases h3 : len ≤ 584
      · rw [decide_eq_true h1, decide_eq_true h2, decide_eq_true h3]
        clear hr hi
        go_enter Tryd.func12, Tryd.ntmps12
        go_wp2
        go_ret
        exact ⟨by simp; omega, rfl⟩
      · rw [decide_eq_true h1, decide_eq_true h2, decide_eq_false h3]
        clear hr hi
        go_enter Tryd.func12, Tryd.ntmps12
        go_wp2
        go_ret
        exact ⟨by simp; omega, rfl⟩
    · rw [decide_eq_true h1, decide_eq_false h2]
      clear hr hi
      go_enter Tryd.func12, Tryd.ntmps12
      go_wp2
      go_ret
      exact ⟨by simp, rfl⟩
  · have t1 : ((len : Int) % 73 == 0) = false := by simp; omega
    rw [decide_eq_false h1]
    clear hr hi
    go_enter Tryd.func12, Tryd.ntmps12
    go_wp2
    go_ret
    exact ⟨by simp, rfl⟩

end Go.Proofs.YtogpdmpefdafnaaDoor
