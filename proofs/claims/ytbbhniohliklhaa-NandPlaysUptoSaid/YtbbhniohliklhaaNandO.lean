/- nand: what a law keeps; the chapter's example. -/
import Derived.Test.YtbbhniohliklhaaNandN
namespace Go.Proofs.Ytbbhniohliklhaa
open Go Go.RowKit
set_option linter.unusedVariables false

/-- A flash that a law has made since w0. -/
structure Law (B : Nat) (w0 : World) (S : Zone) (w : World) (g : Nat) (F : NF) : Prop where
  fl : FlashG S w g F
  lo : ∀ k, S k → B ≤ k
  be : Below B w0 w
  sz : B ≤ w0.heap.size
theorem Law.size {B : Nat} {w0 : World} {S : Zone} {w : World} {g : Nat} {F : NF} (h : Law B w0 S w g F) : B ≤ w.heap.size := Nat.le_trans h.sz h.be.size
theorem Law.op {B : Nat} {w0 : World} {S : Zone} {w w' : World} {g : Nat} {F F' : NF} (h : Law B w0 S w g F) (o : OpW S w g F' w') : Law B w0 (S.grow w w') w' g F' :=
  ⟨o.1, fun k hk => by
    rcases hk with q | q
    · exact h.lo k q
    · have := h.size; omega, h.be.trans (o.2.toBelow h.lo h.size), h.sz⟩
theorem Law.fr {B : Nat} {w0 : World} {S : Zone} {w w' : World} {g : Nat} {F F' : NF} (h : Law B w0 S w g F) (hf : FlashG S w' g F') (o : Fr S w w') : Law B w0 S w' g F' :=
  ⟨hf, h.lo, h.be.trans (o.toBelow h.lo h.size), h.sz⟩
theorem Law.below {B : Nat} {w0 : World} {S : Zone} {w w' : World} {g : Nat} {F : NF} (h : Law B w0 S w g F) (hb : Below w.heap.size w w') : Law B w0 S w' g F :=
  ⟨h.fl.below hb, h.lo, h.be.trans (hb.mono h.size), h.sz⟩
theorem Law.first {w0 w w' : World} {g : Nat} {F : NF} (hb0 : Below w0.heap.size w0 w) (h : FlashG (fun k => w.heap.size ≤ k ∧ k < w'.heap.size) w' g F) (hb : Below w.heap.size w w') : Law w0.heap.size w0 (fun k => w.heap.size ≤ k ∧ k < w'.heap.size) w' g F :=
  ⟨h, fun k hk => by have := hb0.size; omega, hb0.trans (hb.mono hb0.size), Nat.le_refl _⟩
/-- Bytes that lie outside of the zone. -/
def BytesO (S : Zone) (w : World) (a : Option Addr) (len : Nat) (l : List Nat) : Prop := Bytes w a len l ∧ ∀ ad, a = some ad → ¬ S ad.block ∧ ad.block < w.heap.size
theorem BytesO.fr {S S' : Zone} {w w' : World} {a : Option Addr} {len : Nat} {l : List Nat} (h : BytesO S w a len l) (hf : Fr S w w') (hS : ∀ k, S' k → S k ∨ w.heap.size ≤ k) : BytesO S' w' a len l :=
  ⟨h.1.fr hf (fun ad e => (h.2 ad e).1), fun ad e => ⟨fun q => by
    have := h.2 ad e
    rcases hS _ q with q | q
    · exact this.1 q
    · omega, Nat.lt_of_lt_of_le (h.2 ad e).2 hf.size⟩⟩
theorem BytesO.op {S : Zone} {w w' : World} {a : Option Addr} {len : Nat} {l : List Nat} {g : Nat} {F : NF} (h : BytesO S w a len l) (o : OpW S w g F w') : BytesO (S.grow w w') w' a len l := h.fr o.2 fun k q => q.imp id And.left
theorem BytesO.same {S : Zone} {w w' : World} {a : Option Addr} {len : Nat} {l : List Nat} (h : BytesO S w a len l) (o : Fr S w w') : BytesO S w' a len l := h.fr o fun k q => .inl q
theorem BytesO.below {S : Zone} {w w' : World} {a : Option Addr} {len : Nat} {l : List Nat} (h : BytesO S w a len l) (hb : Below w.heap.size w w') : BytesO S w' a len l := h.same (Fr.below hb)
theorem BytesO.out {S : Zone} {w : World} {a : Option Addr} {len : Nat} {l : List Nat} (h : BytesO S w a len l) : OutA S a := fun ad e => (h.2 ad e).1
/-- What was read lies outside. -/
theorem readV_out {S : Zone} {w w' : World} {v : Value} {l : List Nat} (h : ReadV w v l w') (hl : S.lives w) : ∃ a cap, v = .slice a l.length cap ∧ (0 < l.length → BytesO S w' a l.length l) ∧ Bytes w' a l.length l ∧ l.length ≤ cap := by
  obtain ⟨a, cap, rfl, hb, hc, _, ha⟩ := h
  refine ⟨a, cap, rfl, fun h0 => ⟨hb, fun ad e => ?_⟩, hb, hc⟩
  obtain ⟨b, off, e2, hlt, _⟩ := hb.2.2 h0
  have h1 := ha ad e
  rw [e] at e2
  cases e2
  exact ⟨fun q => by have := hl _ q; dsimp only at h1 this; omega, hlt⟩
/-- A row that a law makes. -/
theorem bytesO_made {S : Zone} {w w' : World} {base : Nat} {n cap : Nat} {l : List Nat} (h : w'.ownsRow base 5 1 (.slice (some ⟨w.heap.size, 0, none⟩) n cap) n (u8s l)) (hl : ∀ c ∈ l, c < 256) (hS : S.lives w) : BytesO S w' (some ⟨w.heap.size, 0, none⟩) n l :=
  ⟨bytes_of_own h hl, fun ad e => by cases e; exact ⟨fun q => by have := hS _ q; dsimp only at this; omega, (h.lt _ rfl).2⟩⟩
theorem Bytes.at0 {w : World} {a : Option Addr} {len : Nat} {l : List Nat} (h : Bytes w a len l) (h0 : 0 < len) : ∃ b off, a = some ⟨b, off, none⟩ ∧ b < w.heap.size ∧ ∀ i, i < len → w.cell? ⟨b, off + i, none⟩ = some (.int .u8 (l.getD i 0 : Nat)) := h.2.2 h0

def k0 : NF := (NF.new 2 4 2).arm 2
def k1 : NF := (k0.prog 0 0 (List.replicate 146 0)).2
def k2 : NF := k1.on
theorem k_prog : (k0.prog 0 0 (List.replicate 146 0)).1 = 4 := by decide +kernel
theorem k_read : (k2.read 0 0).1.length = 146 ∧ (k2.read 0 0).2.1 = 0 ∧ (k2.read 0 0).1.getD 72 0 = 0 ∧ (k2.read 0 0).1.getD 73 0 = 255 ∧ ((k2.read 0 0).2.2).nextAt 0 = 1 := by decide +kernel

set_option maxRecDepth 100000 in
set_option maxHeartbeats 2000000 in
theorem nknown_any (w : World) : Calls Try.prog 8 #[] w fun e w' => e = .returned (.bool true) ∧ Below w.heap.size w w' := by
  obtain ⟨POST, hPOST⟩ : ∃ Q : Ending → World → Prop, Q = fun e w' => e = .returned (.bool true) ∧ Below w.heap.size w w' := ⟨_, rfl⟩
  rw [← hPOST]
  have HPOST := Lib.hid hPOST
  clear hPOST
  have hnew := fun w => fnew_any 2 4 2 w (by omega) (by omega) (by omega) (by omega) (by omega) (by omega) (by omega)
  have HNew := Lib.hid hnew
  clear hnew
  go_enter Try.func8, Try.ntmps8
  go_wp2_with fail
  refine (HNew.out _).mono ?_
  rintro e w1 ⟨⟨g, rfl, hg⟩, hb⟩
  have HL := Lib.hid (Law.first (Below.refl _ _) hg hb)
  obtain ⟨S, hS⟩ : ∃ S : Zone, S = fun k => w.heap.size ≤ k ∧ k < w1.heap.size := ⟨_, rfl⟩
  rw [← hS] at HL
  clear hg hb hS
  go_wp2_with fail
  refine (farm_any 2 _ HL.out.fl (by decide)).mono ?_
  rintro e w2 ⟨rfl, ho⟩
  have HL2 := Lib.hid (HL.out.op ho)
  generalize S.grow w1 w2 = S2 at HL2
  clear ho HL
  go_wp2_with (at_make; refine Stop.mk ?_)
  refine Stop.go ?_
  refine wpList_make_u8 rfl _ _ 29 rfl w2.heap.size 5 Try.underlying29 Try.infoU8 146 rfl rfl (by omega) (Nat.le_refl _) ?_
  intro w3 hown hg3
  have hb3 : Below w2.heap.size w2 w3 := (Below.refl _ _).grown hg3 (Nat.le_refl _) (fun k hk => by simp at hk)
  have HX := Lib.hid (bytesO_made hown (by simp) HL2.out.fl.1.2)
  have HL3 := Lib.hid (HL2.out.below hb3)
  clear hown hg3 hb3 HL2
  go_wp2_with fail
  have hp := fprog_any 0 0 (some ⟨w2.heap.size, 0, none⟩) 146 146 (List.replicate 146 0) w3 HL3.out.fl HX.out.1 HX.out.out (by omega) (by omega)
  rw [show ((NF.new 2 4 2).arm 2) = k0 from rfl, k_prog] at hp
  refine hp.mono ?_
  clear hp
  rintro e w4 ⟨rfl, ho⟩
  have HL4 : Hid (Law w.heap.size w (S2.grow w3 w4) w4 g k1) := Lib.hid (HL3.out.op ho)
  generalize S2.grow w3 w4 = S4 at HL4
  clear ho HL3 HX
  go_wp2_with fail
  refine (fon_any _ HL4.out.fl).mono ?_
  rintro e w5 ⟨rfl, ho⟩
  have HL5 : Hid (Law w.heap.size w (S4.grow w4 w5) w5 g k2) := Lib.hid (HL4.out.op ho)
  generalize S4.grow w4 w5 = S5 at HL5
  clear ho HL4
  go_wp2_with fail
  have hr := fread_any 0 0 _ HL5.out.fl
  rw [k_read.2.1] at hr
  refine hr.mono ?_
  clear hr
  rintro e w6 ⟨⟨v, rfl, hv⟩, hf6, hfr6⟩
  have HL6 := Lib.hid (HL5.out.fr hf6 hfr6)
  obtain ⟨a, cap, rfl, -, hby, hcap⟩ := readV_out hv HL5.out.fl.1.2
  rw [k_read.1] at hby hcap ⊢
  obtain ⟨b, off, rfl, hlt, hc⟩ := hby.at0 (by omega)
  have c72 := hc 72 (by omega)
  have c73 := hc 73 (by omega)
  rw [k_read.2.2.1] at c72
  rw [k_read.2.2.2.1] at c73
  have hn := fnext_any 0 _ HL6.out.fl
  rw [k_read.2.2.2.2] at hn
  have HN := Lib.hid hn
  clear hv hf6 hfr6 HL5 hby hc hn
  go_wp2_with fail
  refine HN.out.mono ?_
  rintro e w7 ⟨rfl, rfl⟩
  go_wp2_with fail
  rw [HPOST.out]
  exact ⟨rfl, HL6.out.be⟩
end Go.Proofs.Ytbbhniohliklhaa
