/- token: the walks of Lay, Clone. -/
import Derived.Test.YtjadkfgkidejbaaCrcB
import Derived.Test.YtjadkfgkidejbaaCrcQ
namespace Go.Proofs.Ytjadkfgkidejbaa
open Go.RowKit
set_option linter.unusedVariables false

def layL (l : List Nat) : List Nat := 254 :: (l ++ [Crc.sum16 l / 256, Crc.sum16 l % 256])
theorem layL_lt (l : List Nat) (hl : ∀ c ∈ l, c < 256) : ∀ c ∈ layL l, c < 256 := by
  have hs := Crc.sum16_lt l hl
  intro c hc
  unfold layL at hc
  rcases List.mem_cons.1 hc with h | h
  · omega
  · rcases List.mem_append.1 h with h | h
    · exact hl c h
    · simp at h; omega
theorem layL_len (l : List Nat) : (layL l).length = l.length + 3 := by simp [layL]

def LayAt (B : Nat) (w : World) (len : Nat) (l : List Nat) (e : Ending) : Prop := ∃ g cap, e = .returned (.slice (some ⟨g, 0, none⟩) (len + 3) cap) ∧ w.ownsRow B 5 1 (.slice (some ⟨g, 0, none⟩) (len + 3) cap) (len + 3) (u8s (layL l))

set_option maxRecDepth 100000 in
set_option maxHeartbeats 2000000 in
theorem lay_any (a : Option Addr) (len cap : Nat) (l : List Nat) (w : World) (hi : Bytes w a len l) (hnil : a = none → cap = 0) (hl : len ≤ 1000000) :
    Calls Try.prog 79 #[.slice a len cap] w fun e w' => LayAt w.heap.size w' len l e ∧ Below w.heap.size w w' := by
  have hs := Crc.sum16_lt l hi.2.1
  obtain ⟨s, hS⟩ : ∃ s, s = Crc.sum16 l := ⟨_, rfl⟩
  rw [← hS] at hs
  have HS := Lib.hid hS
  clear hS
  go_enter Try.func79, Try.ntmps79
  go_wp2_with fail
  refine (sixteen_any a len cap l _ hi (by omega)).mono ?_
  rintro e w1 ⟨rfl, rfl⟩
  rw [← HS.out]
  go_wp2_with (first | (at_builtin; refine Stop.mk ?_) | (at_make; refine Stop.mk ?_))
  refine Stop.go ?_
  refine wpList_app_u8 rfl _ _ 24 rfl w.heap.size 5 Try.underlying24 Try.infoU8 (.slice (some ⟨w.heap.size, 0, none⟩) 1 1) 1 [254] rfl (World.ownsRow_lit (e := 5) (base := w.heap.size) (size := 1) w #[.int .u8 254] 1 (Nat.le_refl _) (by decide) (by simp)) a len cap l rfl (hi.alloc _) hnil (by omega) (by simp) ?_
  intro v2 w2 hown2 hgrow2
  have hb2 : Below w.heap.size w w2 := ((Below.refl _ _).alloc (Nat.le_refl _) _).grown hgrow2 (by simp) (fun k hk => by simp [Value.ownBlock] at hk; omega)
  have hsz2 := hb2.size
  have HO2 := Lib.hid hown2
  clear hown2 hgrow2
  go_wp2_with (first | (at_builtin; refine Stop.mk ?_) | (at_make; refine Stop.mk ?_))
  refine Stop.go ?_
  have e1 : (s : Int) / 256 = ((s / 256 : Nat) : Int) := by omega
  have e2 : (s : Int) % 256 = ((s % 256 : Nat) : Int) := by omega
  rw [e1, e2]
  clear e1 e2
  refine wpList_app_u8 rfl _ _ 24 rfl w.heap.size 5 Try.underlying24 Try.infoU8 v2 (1 + len) ([254] ++ l) rfl (HO2.out.alloc _) _ 2 2 [s / 256, s % 256] rfl (bytes_lit2 (by omega) (by omega)) (fun h => by simp at h) (by omega) (by simp; omega) ?_
  intro v3 w3 hown3 hgrow3
  have hb3 : Below w.heap.size w w3 := (hb2.alloc hsz2 _).grown hgrow3 (by simp; omega) (fun k hk => (HO2.out.lt k hk).1)
  rw [show 1 + len + 2 = len + 3 by omega] at hown3
  have e4 : [254] ++ l ++ [s / 256, s % 256] = layL l := by rw [HS.out]; rfl
  rw [e4] at hown3
  obtain ⟨g, cap3, hv⟩ := own_shape hown3 (by omega)
  rw [hv] at hown3 ⊢
  have HO3 := Lib.hid hown3
  clear hown3 hgrow3 hv e4
  go_wp2
  go_ret
  exact ⟨⟨g, cap3, rfl, HO3.out⟩, hb3⟩

/-- A slice that reads as bytes (nil has no room). -/
def ReadsAs (B : Nat) (w : World) (len : Nat) (l : List Nat) (v : Value) : Prop := ∃ a cap, v = .slice a len cap ∧ Bytes w a len l ∧ (a = none → cap = 0) ∧ len ≤ cap ∧ ∀ ad, a = some ad → B ≤ ad.block

set_option maxRecDepth 100000 in
set_option maxHeartbeats 2000000 in
theorem clone_any (a : Option Addr) (len cap : Nat) (l : List Nat) (w : World) (hi : Bytes w a len l) (hnil : a = none → cap = 0) (hl : len ≤ 1000000) (hc : len ≤ cap) (hcm : cap ≤ maxLen) :
    Calls Try.prog 82 #[.slice a len cap] w fun e w' => (∃ v, e = .returned v ∧ ReadsAs w.heap.size w' len l v) ∧ Below w.heap.size w w' := by
  unfold maxLen at hcm
  obtain ⟨POST, hPOST⟩ : ∃ Q : Ending → World → Prop, Q = fun e w' => (∃ v, e = .returned v ∧ ReadsAs w.heap.size w' len l v) ∧ Below w.heap.size w w' := ⟨_, rfl⟩
  rw [← hPOST]
  have HPOST := Lib.hid hPOST
  clear hPOST
  have heq := fun w => Lib.run_eql_slice_nil (P := Try.prog) w 24 5 a len cap 0 0 Try.underlying24
  cases a with
  | none =>
    have hc0 := hnil rfl
    subst hc0
    obtain rfl : len = 0 := by omega
    have hl0 : l = [] := List.eq_nil_of_length_eq_zero hi.1
    go_enter Try.func82, Try.ntmps82
    go_wp2
    rw [HPOST.out]
    exact ⟨⟨_, rfl, ⟨none, 0, rfl, hi, fun _ => rfl, by omega, fun _ h => by simp at h⟩⟩, Below.refl _ _⟩
  | some ad =>
    go_enter Try.func82, Try.ntmps82
    go_wp2_with (first | (at_builtin; refine Stop.mk ?_) | (at_make; refine Stop.mk ?_))
    refine Stop.go ?_
    refine wpList_app_u8 rfl _ _ 24 rfl w.heap.size 5 Try.underlying24 Try.infoU8 (.slice (some ⟨w.heap.size, 0, none⟩) 0 0) 0 [] rfl (own_empty (Nat.le_refl _)) (some ad) len cap l rfl (hi.alloc _) hnil (by omega) (by simp) ?_
    intro v w1 hown hgrow
    rw [Nat.zero_add, List.nil_append] at hown
    have hb : Below w.heap.size w w1 := ((Below.refl _ _).alloc (Nat.le_refl _) _).grown hgrow (by simp) (fun k hk => by simp [Value.ownBlock] at hk; omega)
    have hR : ReadsAs w.heap.size w1 len l v := by
      obtain ⟨a1, cap1, hv, hy⟩ := bytes_of_own' hown hi.2.1
      refine ⟨a1, cap1, hv, hy, ?_, ?_, fun ad h0 => (hown.lt ad.block (by rw [hv, h0]; rfl)).1⟩
      · intro h0
        rcases hown.2 with ⟨h, _⟩ | ⟨g, cap', cur, h, _⟩
        · rw [hv] at h; simp at h; exact h.2.2
        · rw [hv] at h; simp at h; rw [h.1] at h0; simp at h0
      · rcases hown.2 with ⟨h, h2⟩ | ⟨g, cap', cur, h, _, _, h3, _⟩
        · omega
        · rw [hv] at h; simp at h; omega
    have HR := Lib.hid hR
    clear hown hgrow hR
    go_wp2
    rw [HPOST.out]
    exact ⟨⟨_, rfl, HR.out⟩, hb⟩

/-- What 'Read' tells. -/
def readErr (b : List Nat) (size : Int) : Int :=
  if b.length = 0 then 23 else if b.getD 0 0 ≠ 254 ∨ size < 0 ∨ 4096 < size then 24 else if (b.length : Int) < size + 3 then 23
  else if Crc.sum16 ((b.drop 1).take size.toNat) = (256 * b.getD (1 + size.toNat) 0 ||| b.getD (2 + size.toNat) 0) then 0 else 25
def readN (b : List Nat) (size : Int) : Int := if readErr b size = 0 then size + 3 else 0
def readL (b : List Nat) (size : Int) : List Nat := if readErr b size = 0 then (b.drop 1).take size.toNat else []

def ReadAt (B : Nat) (w : World) (b : List Nat) (size : Int) (e : Ending) : Prop :=
  ∃ a cap, e = .returned (.tuple #[.slice a (readL b size).length cap, .int .i64 (readN b size), .int .i64 (readErr b size)]) ∧ Bytes w a (readL b size).length (readL b size) ∧ (a = none → cap = 0) ∧ (readL b size).length ≤ cap ∧ ∀ ad, a = some ad → B ≤ ad.block

theorem readL_lt {b : List Nat} (size : Int) (hb : ∀ c ∈ b, c < 256) : ∀ c ∈ readL b size, c < 256 := by
  unfold readL
  split
  · intro c hc; exact hb c (List.mem_of_mem_drop (List.mem_of_mem_take hc))
  · simp

theorem ReadAt.bad {B : Nat} {w : World} {b : List Nat} {size : Int} {er : Int} (h : readErr b size = er) (h0 : er ≠ 0) : ReadAt B w b size (.returned (.tuple #[.slice none 0 0, .int .i64 0, .int .i64 er])) := by
  have h1 : readL b size = [] := by unfold readL; rw [if_neg (by rw [h]; exact h0)]
  have h2 : readN b size = 0 := by unfold readN; rw [if_neg (by rw [h]; exact h0)]
  refine ⟨none, 0, by rw [h1, h2, h]; rfl, by rw [h1]; exact ⟨rfl, by simp, fun h => by simp at h⟩, fun _ => rfl, by rw [h1]; simp, fun _ h => by simp at h⟩

set_option maxRecDepth 100000 in
set_option maxHeartbeats 4000000 in
theorem read_any (a : Option Addr) (len cap : Nat) (l : List Nat) (size : Int) (w : World) (hi : Bytes w a len l) (hnil : a = none → cap = 0) (hl : len ≤ 1000000) (hc : len ≤ cap) (hcm : cap ≤ maxLen) :
    Calls Try.prog 80 #[.slice a len cap, .int .i64 size] w fun e w' => ReadAt w.heap.size w' l size e ∧ Below w.heap.size w w' := by
  have hlen := hi.1
  by_cases h0 : len = 0
  · have hE : readErr l size = 23 := by unfold readErr; rw [if_pos (by omega)]
    have hR := @ReadAt.bad w.heap.size w l size 23 hE (by omega)
    have HR := Lib.hid hR
    have h00 : ((len : Int) == 0) = true := by simp; omega
    clear hE hR hlen h0
    go_enter Try.func80, Try.ntmps80
    go_wp2
    go_ret3
    exact ⟨HR.out, Below.refl _ _⟩
  · have h00 : ((len : Int) == 0) = false := by simp; omega
    obtain ⟨b, o, rfl, hbl, hcell⟩ := hi.2.2 (by omega)
    have c0 := hcell 0 (by omega)
    rw [Nat.add_zero] at c0
    obtain ⟨z, hz⟩ : ∃ z, z = l.getD 0 0 := ⟨_, rfl⟩
    rw [← hz] at c0
    have hE1 : (z ≠ 254 ∨ size < 0 ∨ 4096 < size) → readErr l size = 24 := by
      intro h; unfold readErr; rw [if_neg (by omega), ← hz, if_pos h]
    have hE2 : ¬ (z ≠ 254 ∨ size < 0 ∨ 4096 < size) → (l.length : Int) < size + 3 → readErr l size = 23 := by
      intro h h2; unfold readErr; rw [if_neg (by omega), ← hz, if_neg h, if_pos h2]
    have hE3 : ¬ (z ≠ 254 ∨ size < 0 ∨ 4096 < size) → ¬ (l.length : Int) < size + 3 → readErr l size = if Crc.sum16 ((l.drop 1).take size.toNat) = (256 * l.getD (1 + size.toNat) 0 ||| l.getD (2 + size.toNat) 0) then 0 else 25 := by
      intro h h2; unfold readErr; rw [if_neg (by omega), ← hz, if_neg h, if_neg h2]
    have HE1 := Lib.hid hE1
    have HE2 := Lib.hid hE2
    have HE3 := Lib.hid hE3
    have HLen := Lib.hid hlen
    clear hE1 hE2 hE3 hz hlen
    rcases (show (z ≠ 254) ∨ (z = 254 ∧ size < 0) ∨ (z = 254 ∧ 0 ≤ size ∧ 4096 < size) ∨ (z = 254 ∧ 0 ≤ size ∧ size ≤ 4096 ∧ (len : Int) < size + 3) ∨ (z = 254 ∧ 0 ≤ size ∧ size ≤ 4096 ∧ size + 3 ≤ (len : Int)) by omega) with q | ⟨q, q2⟩ | ⟨q, q2, q3⟩ | ⟨q, q2, q3, q4⟩ | ⟨q, q2, q3, q4⟩
    · have HR := Lib.hid (@ReadAt.bad w.heap.size w l size 24 (HE1.out (.inl q)) (by omega))
      have hz1 : ((z : Int) != 254) = true := by rw [bne_iff_ne]; omega
      clear q
      go_enter Try.func80, Try.ntmps80
      go_wp2
      go_ret3
      exact ⟨HR.out, Below.refl _ _⟩
    · have HR := Lib.hid (@ReadAt.bad w.heap.size w l size 24 (HE1.out (.inr (.inl q2))) (by omega))
      have hz1 : ((z : Int) != 254) = false := by simp; omega
      clear q
      go_enter Try.func80, Try.ntmps80
      go_wp2
      go_ret3
      exact ⟨HR.out, Below.refl _ _⟩
    · have HR := Lib.hid (@ReadAt.bad w.heap.size w l size 24 (HE1.out (.inr (.inr q3))) (by omega))
      have hz1 : ((z : Int) != 254) = false := by simp; omega
      clear q
      go_enter Try.func80, Try.ntmps80
      go_wp2
      go_ret3
      exact ⟨HR.out, Below.refl _ _⟩
    · have HR := Lib.hid (@ReadAt.bad w.heap.size w l size 23 (HE2.out (by omega) (by rw [HLen.out]; exact q4)) (by omega))
      have hz1 : ((z : Int) != 254) = false := by simp; omega
      clear q
      go_enter Try.func80, Try.ntmps80
      go_wp2
      go_ret3
      exact ⟨HR.out, Below.refl _ _⟩
    · have hz1 : ((z : Int) != 254) = false := by simp; omega
      have QZ := Lib.hid q
      clear q
      obtain ⟨n, rfl⟩ : ∃ n : Nat, size = n := ⟨size.toNat, by omega⟩
      have c1 := hcell (1 + n) (by omega)
      have c2 := hcell (2 + n) (by omega)
      have l1 := Crc.getD_lt hi.2.1 (1 + n)
      have l2 := Crc.getD_lt hi.2.1 (2 + n)
      have HCL := Lib.hid hcell
      clear hcell
      go_enter Try.func80, Try.ntmps80
      go_wp2_with fail
      obtain ⟨p, hp⟩ : ∃ p, p = l.getD (1 + n) 0 := ⟨_, rfl⟩
      obtain ⟨q, hq⟩ : ∃ q, q = l.getD (2 + n) 0 := ⟨_, rfl⟩
      rw [← hp] at c1 l1
      rw [← hq] at c2 l2
      have HP := Lib.hid hp
      have HQ := Lib.hid hq
      clear hp hq
      have hor : bits .or .u16 ((p : Int) * 256) (q : Int) = (((256 * p) ||| q : Nat) : Int) := by
        rw [show (p : Int) * 256 = ((256 * p : Nat) : Int) by simp; omega, u16_or_nat _ _ (by omega) (by omega)]
      have t1 : IntKind.i64.wrap (1 + (n : Int)) = 1 + (n : Int) := IntWalk.i64_in _ (by omega)
      have t2 : (0 : Int) ≤ 1 + (n : Int) := by omega
      have t3 : (1 + (n : Int)).toNat = 1 + n := by omega
      have t4 : 1 + (n : Int) < (len : Int) := by omega
      have t5 : IntKind.i64.wrap (2 + (n : Int)) = 2 + (n : Int) := IntWalk.i64_in _ (by omega)
      have t6 : (0 : Int) ≤ 2 + (n : Int) := by omega
      have t7 : (2 + (n : Int)).toNat = 2 + n := by omega
      have t8 : 2 + (n : Int) < (len : Int) := by omega
      have t9 : 1 + n < len := by omega
      have t10 : 2 + n < len := by omega
      go_quiet (fail)
      clear t1 t2 t3 t4 t5 t6 t7 t8 t9 t10
      have hby : Bytes (w.drewN nq) (some ⟨b, o + 1, none⟩) n ((l.drop 1).take n) := by
        refine ⟨by simp [HLen.out]; omega, fun c hc => hi.2.1 c (List.mem_of_mem_drop (List.mem_of_mem_take hc)), fun _ => ⟨b, o + 1, rfl, hbl, fun i hi2 => ?_⟩⟩
        have := HCL.out (1 + i) (by omega)
        rw [show o + 1 + i = o + (1 + i) by omega]
        show w.cell? _ = _
        rw [this]
        simp [List.getD, hi2, Nat.add_comm]
      obtain ⟨M, hM⟩ : ∃ M, M = (l.drop 1).take n := ⟨_, rfl⟩
      rw [← hM] at hby
      have HMM := Lib.hid hM
      have HML : Hid (M.length = n) := hby.1
      have hx := Crc.sum16_lt _ hby.2.1
      have HX := Lib.hid hx
      by_cases hsum : Crc.sum16 M = (256 * p ||| q)
      · have hE : readErr l n = 0 := by
          have := HE3.out (by have := QZ.out; omega) (by rw [HLen.out]; omega)
          rw [this, Int.toNat_natCast, ← HP.out, ← HQ.out, ← HMM.out, if_pos hsum]
        have hLL : readL l n = M := by unfold readL; rw [if_pos hE, Int.toNat_natCast, ← HMM.out]
        have hNN : readN l n = (n : Int) + 3 := by unfold readN; rw [if_pos hE]
        have hs1 : (((256 * p ||| q : Nat) : Int) != ((Crc.sum16 M : Nat) : Int)) = false := by rw [hsum]; simp
        have H1 := Lib.hid hE
        have H2 := Lib.hid hLL
        have H3 := Lib.hid hNN
        clear hsum hE hLL hNN hor hx hM
        go_wp2_with fail
        refine (sixteen_any _ _ _ _ _ hby (by omega)).mono ?_
        rintro e w2 ⟨rfl, rfl⟩
        go_wp2_with fail
        refine (clone_any (some ⟨b, o + 1, none⟩) n (cap - 1) M _ hby (fun h => by simp at h) (by omega) (by omega) (Nat.le_trans (Nat.sub_le _ _) hcm)).mono ?_
        rintro e w2 ⟨⟨v, rfl, hR⟩, hb2⟩
        obtain ⟨a2, cap2, hv, hy2, hn2, hc2, hfr2⟩ := hR
        rw [hv]
        have HF2 := Lib.hid hfr2
        clear hs1 hby hfr2
        go_wp2
        go_ret3
        refine ⟨⟨a2, cap2, ?_, ?_, hn2, ?_, HF2.out⟩, (below_drewN' (Below.refl _ _) nq).trans hb2⟩
        · rw [H1.out, H2.out, H3.out]
          rw [HML.out]; rfl
        · rw [H2.out]
          rw [HML.out]; exact hy2
        · rw [H2.out]
          rw [HML.out]; exact hc2
      · have hE : readErr l n = 25 := by
          have := HE3.out (by have := QZ.out; omega) (by rw [HLen.out]; omega)
          rw [this, Int.toNat_natCast, ← HP.out, ← HQ.out, ← HMM.out, if_neg hsum]
        have HR := Lib.hid (@ReadAt.bad w.heap.size (w.drewN nq) l n 25 hE (by omega))
        have hs1 : (((256 * p ||| q : Nat) : Int) != ((Crc.sum16 M : Nat) : Int)) = true := by rw [bne_iff_ne]; omega
        clear hsum hE hor hx hM
        go_wp2_with fail
        refine (sixteen_any _ _ _ _ _ hby (by omega)).mono ?_
        rintro e w2 ⟨rfl, rfl⟩
        go_wp2
        go_ret3
        exact ⟨HR.out, below_drewN' (Below.refl _ _) nq⟩

end Go.Proofs.Ytjadkfgkidejbaa
