/- sha: Write; a digest is as it was where nothing of it is written. -/
import Derived.Test.YtodipcolblbooaaShaN
namespace Go.Proofs.Ytodipcolblbooaa
open Go Go.RowKit
set_option linter.unusedVariables false

theorem DigL.below {w w' : World} {B g : Nat} {kd : Bool} {key l : List Nat} (h : DigL w B g kd key l) (hb : Below w.heap.size w w') : DigL w' B g kd key l := by
  obtain ⟨v, h1, h2⟩ := h
  exact ⟨v, HasB.below h1 hb (HasB.lt h1), own_below h2 hb (Nat.le_refl _)⟩
theorem DigL.lt {w : World} {B g : Nat} {kd : Bool} {key l : List Nat} (h : DigL w B g kd key l) : g < w.heap.size := by
  obtain ⟨v, h1, _⟩ := h
  exact HasB.lt h1
theorem DigL.z {w : World} {B g : Nat} {kd : Bool} {key l : List Nat} (h : DigL w B g kd key l) : DigZ w g kd key := by
  obtain ⟨v, h1, _⟩ := h
  exact ⟨_, _, _, st_len _, h1⟩
/-- The digest behind an append to a row that lies apart from its own. -/
theorem DigL.app {w w' : World} {B B' g n : Nat} {kd : Bool} {key l : List Nat} {xs : List Value} {u u' : Value} (h : DigL w B g kd key l) (hu : w.ownsRow B' 5 1 u n xs) (hr : RestAt w g u) (hg : w.grownBy w' u.ownBlock) (hp : u'.ownBlock = u.ownBlock ∨ u'.ownBlock = some w.heap.size) : DigL w' B g kd key l ∧ RestAt w' g u' := by
  obtain ⟨v, h1, h2⟩ := h
  have hv := hr v (h1.tail 0)
  obtain ⟨k1, k2⟩ := apart_app h2 hv.symm hg hp
  have h1' : HeadU w' g 60 _ _ := HasB.kept h1 hg (fun e => own_ne hu h1 (by decide) e.symm)
  refine ⟨⟨v, h1', k1⟩, fun v' hv' => ?_⟩
  have h8 : w'.cell? ⟨g, 8, none⟩ = some v := h1'.tail 0
  have e := h8.symm.trans hv'
  cases e
  exact k2.symm
theorem RestAt.below {w w' : World} {g : Nat} {u : Value} (h : RestAt w g u) (hg : g < w.heap.size) (hb : Below w.heap.size w w') : RestAt w' g u := fun v hv => h v (by rw [← hb.cell (p := ⟨g, 8, none⟩) hg]; exact hv)
theorem restAt_none {w : World} {g n cap : Nat} : RestAt w g (.slice none n cap) := fun v _ => (apart_none v).symm

set_option maxRecDepth 100000 in
set_option maxHeartbeats 4000000 in
theorem swrite_any (B g : Nat) (kd : Bool) (key l : List Nat) (a : Option Addr) (len cap : Nat) (b : List Nat) (w : World) (h : DigL w B g kd key l) (hB : B ≤ g) (hBw : B ≤ w.heap.size) (hl8 : ∀ c ∈ l, c < 256) (hi : Bytes w a len b) (hnil : a = none → cap = 0) (ha : 0 < len → ∀ ad, a = some ad → ad.block ≠ g) (hbl : len ≤ 100000) (hn : l.length ≤ 100000000) :
    Calls Try.prog 15 #[.pointer (some ⟨g, 0, none⟩), .slice a len cap] w fun e w' => e = .returned (.tuple #[.int .i64 (len : Int), .nilIface]) ∧ DigL w' B g kd key (l ++ b) ∧ Below B w w' ∧ Keeps w w' g ∧ KeepR w w' g := by
  have HD := Lib.hid h
  have H8 := Lib.hid hl8
  have HI := Lib.hid hi
  have HNil := Lib.hid hnil
  have HA := Lib.hid ha
  clear h hl8 hi hnil ha
  go_enter Try.func15, Try.ntmps15
  go_wp2_with fail
  refine (dadd_anyR B g kd key l a len cap b _ HD.out hB hBw H8.out HI.out HNil.out HA.out hbl hn).mono ?_
  rintro e w1 ⟨rfl, hD⟩
  have HD1 := Lib.hid hD
  clear hD
  go_wp2_with fail
  go_ret2
  exact ⟨rfl, HD1.out⟩
end Go.Proofs.Ytodipcolblbooaa
