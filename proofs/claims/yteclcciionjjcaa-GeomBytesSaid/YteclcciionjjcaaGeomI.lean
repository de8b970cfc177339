/- geom: a shape's numbers; Encode, the program's and the reference's. -/
import Derived.Test.YteclcciionjjcaaGeomE
import Derived.Test.YteclcciionjjcaaGeomG
import Derived.Test.YteclcciionjjcaaHeld
namespace Go.Proofs.Yteclcciionjjcaa
open Go Go.RowKit
set_option linter.unusedVariables false

theorem Try.infoU8 : (Try.prog.info? 5).map (fun i => (i.zero, i.size, i.bytes)) = some (some (.int .u8 0), 1, 1) := by kernel_rfl
def u32n (n : Int) : Nat := (n % 4294967296).toNat
theorem u32n_lt (n : Int) : u32n n < 4294967296 := by unfold u32n; omega
def le4 (n : Int) : List Nat := [u32n n % 256, u32n n / 256 % 256, u32n n / 65536 % 256, u32n n / 16777216 % 256]
theorem le4_lt (n : Int) : ∀ c ∈ le4 n, c < 256 := by intro c hc; simp [le4] at hc; omega
def Cfg.num (c : Cfg) : Nat → Int
  | 0 => c.blocks
  | 1 => c.pages
  | 2 => c.sector
  | 3 => c.user
  | 4 => c.boot
  | 5 => c.rpa
  | 6 => c.group
  | 7 => c.cache
  | _ => c.spare
theorem Cfg.cell_num (c : Cfg) (k : Nat) (hk : k < 9) : c.cells.toArray[k]? = some (.int .i64 (c.num k)) := by
  match k, hk with
  | 0, _ => rfl
  | 1, _ => rfl
  | 2, _ => rfl
  | 3, _ => rfl
  | 4, _ => rfl
  | 5, _ => rfl
  | 6, _ => rfl
  | 7, _ => rfl
  | 8, _ => rfl
def encG (c : Cfg) : Nat → List Nat
  | 0 => []
  | k + 1 => encG c k ++ le4 (c.num k)
theorem encG_len (c : Cfg) : ∀ k, (encG c k).length = 4 * k
  | 0 => rfl
  | k + 1 => by rw [encG, List.length_append, encG_len c k]; simp [le4]; omega
theorem encG_lt (c : Cfg) : ∀ k, ∀ x ∈ encG c k, x < 256
  | 0 => by simp [encG]
  | k + 1 => fun x hx => by
    rcases List.mem_append.1 hx with h | h
    · exact encG_lt c k x h
    · exact le4_lt _ x h
/-- What an encoding hands back. -/
def EncAt (w : World) (l : List Nat) (e : Ending) : Prop := ∃ a cap, e = .returned (.slice a 36 cap) ∧ Bytes w a 36 l ∧ 36 ≤ cap ∧ cap ≤ maxLen
theorem enc_at {w : World} {B : Nat} {v : Value} {l : List Nat} (h : w.ownsRow B 5 1 v 36 (u8s l)) (hl : ∀ c ∈ l, c < 256) : EncAt w l (.returned v) := by
  rcases h.2 with ⟨_, h0⟩ | ⟨g, cap, C, rfl, _, _, h1, h2, _⟩
  · omega
  · exact ⟨_, cap, rfl, bytes_of_own h hl, h1, h2⟩
/-- A block and what lies below, behind an append onto a row that is younger. -/
theorem keep_row {wo wa w' : World} {g : Nat} {vs : Array Value} {T e : TypeId} {B : Nat} {v : Value} {n : Nat} {xs : List Value} (h : HasB wo g vs T) (hgB : g < B) (ho : wo.ownsRow B e 1 v n xs) (hb : Below wo.heap.size wo wa) (hg : wa.grownBy w' v.ownBlock) : HasB w' g vs T := by
  have hlt := h.lt
  have hne : some g ≠ v.ownBlock := by
    intro q
    have := (ho.lt _ q.symm).1
    omega
  have h2 : HasB wa g vs T := h.below hb hlt
  exact (hg.block _ h2.lt hne).trans h2
theorem below_row {w wo wa w' : World} {e : TypeId} {B : Nat} {v : Value} {n : Nat} {xs : List Value} (h : Below w.heap.size w wo) (hwB : w.heap.size ≤ B) (ho : wo.ownsRow B e 1 v n xs) (hb : Below wo.heap.size wo wa) (hg : wa.grownBy w' v.ownBlock) : Below w.heap.size w w' := by
  have hb2 : Below w.heap.size w wa := h.trans (hb.mono h.size)
  exact hb2.grown hg hb2.size (fun j hj => by have := (ho.lt j hj).1; omega)

/-- The addresses of a shape's numbers. -/
def ptrs (g : Nat) : Array Value := #[.pointer (some ⟨g, 0, none⟩), .pointer (some ⟨g, 1, none⟩), .pointer (some ⟨g, 2, none⟩), .pointer (some ⟨g, 3, none⟩), .pointer (some ⟨g, 4, none⟩), .pointer (some ⟨g, 5, none⟩), .pointer (some ⟨g, 6, none⟩), .pointer (some ⟨g, 7, none⟩), .pointer (some ⟨g, 8, none⟩)]
theorem ptrs_at (g k : Nat) (hk : k < 9) : (ptrs g)[k]? = some (.pointer (some ⟨g, k, none⟩)) := by
  match k, hk with
  | 0, _ => rfl
  | 1, _ => rfl
  | 2, _ => rfl
  | 3, _ => rfl
  | 4, _ => rfl
  | 5, _ => rfl
  | 6, _ => rfl
  | 7, _ => rfl
  | 8, _ => rfl

set_option maxRecDepth 100000 in
set_option maxHeartbeats 4000000 in
theorem numbers_any (g : Nat) (w : World) :
    Calls Try.prog 14 #[.pointer (some ⟨g, 0, none⟩)] w fun x w' => x = .returned (.slice (some ⟨w.heap.size, 0, none⟩) 9 9) ∧ HasB w' w.heap.size (ptrs g) 40 ∧ Below w.heap.size w w' := by
  have HF : Hid (HasB (w.drew.alloc (.cells (ptrs g) 40)) w.heap.size (ptrs g) 40 ∧ Below w.heap.size w (w.drew.alloc (.cells (ptrs g) 40))) := Lib.hid ⟨HasB.new' (by simp) _ _, (Below.refl _ _).drew.alloc (Nat.le_refl _) _⟩
  unfold ptrs at HF
  unfold ptrs
  go_enter Try.func14, Try.ntmps14
  go_wp2_with fail
  go_still_tail 27, (by kernel_rfl)
  change wpList _ _ _ _ _ w.drew
  go_wp2_with fail
  go_ret
  exact ⟨rfl, HF.out⟩
end Go.Proofs.Yteclcciionjjcaa
