/- ecc: EccRowMends. -/
import Derived.Test.YtfefjabdfelhnaaDoorEccAC
namespace Go.Proofs.YtfefjabdfelhnaaDoor
open Go Go.RowKit
set_option linter.unusedVariables false

theorem own_mono {w : World} {base base' : Nat} {e : TypeId} {size : Nat} {v : Value} {n : Nat} {xs : List Value} (h : w.ownsRow base e size v n xs) (hb : base' ≤ base) : w.ownsRow base' e size v n xs :=
  ⟨h.1, h.2.imp id fun ⟨g, cap, cur, h1, h2, r⟩ => ⟨g, cap, cur, h1, Nat.le_trans hb h2, r⟩⟩
theorem Two.below {B : Nat} {w w' : World} {gx n capx : Nat} {x : List Nat} {gc m capc : Nat} {c : List Nat} (h : Two B w gx n capx x gc m capc c) (hb : Below w.heap.size w w') : Two B w' gx n capx x gc m capc c :=
  ⟨own_below h.1 hb (Nat.le_refl _), own_below h.2.1 hb (Nat.le_refl _), h.2.2⟩
theorem Two.bytes {B : Nat} {w : World} {gx n capx : Nat} {x : List Nat} {gc m capc : Nat} {c : List Nat} (h : Two B w gx n capx x gc m capc c) (hx : ∀ v ∈ x, v < 256) (hc : ∀ v ∈ c, v < 256) : Bytes w (some ⟨gx, 0, none⟩) n x ∧ Bytes w (some ⟨gc, 0, none⟩) m c := ⟨bytes_of_own h.1 hx, bytes_of_own h.2.1 hc⟩

theorem flip_as {B : Nat} {w : World} {gx n capx gc m capc : Nat} {x c : List Nat} (M i k : Nat) (z : Int) (hz : z = (k : Int)) (h : Two B w gx n capx x gc m capc c) (hx : ∀ v ∈ x, v < 256) (hc : ∀ v ∈ c, v < 256) (hn : n = 8 * M) (hm : m = M) (hi : i < M) (hM : M ≤ 1000000) (hk : k < 72) (hcn : n ≤ capx) (hcm : m ≤ capc) (hB : B ≤ w.heap.size) :
    Calls Tryd.prog 14 #[.slice (some ⟨gx, 0, none⟩) n capx, .slice (some ⟨gc, 0, none⟩) m capc, .int .i64 (i : Int), .int .i64 z] w fun e w' => e = .returned (.tuple #[]) ∧ Two B w' gx n capx (flipX x i k) gc m capc (flipC c i k) ∧ Below B w w' := by
  subst hz
  exact flip_two M i k h hx hc hn hm hi hM hk hcn hcm hB

set_option maxRecDepth 100000 in
set_option maxHeartbeats 40000000 in
theorem erm_walk (a : Option Addr) (len cap : Nat) (l : List Nat) (a2 : Option Addr) (bl cap2 : Nat) (zs : List Int) (tw : Int) (w : World) (hi : Bytes w a len l) (hj : IntsK .i64 w a2 bl zs) (hz : ∀ z ∈ zs, I64 z) (M : Nat) (hM : len = 8 * M) (hM1 : 1 ≤ M) (hM2 : M ≤ 75) (hbl : bl ≤ 100) (hc : len ≤ cap) (hnil : a = none → cap = 0) (hT : Deb w) (htw : I64 tw) :
    Calls Tryd.prog 4 #[.slice a len cap, .slice a2 bl cap2, .int .i64 tw] w fun e w' => e = .returned (.bool true) ∧ Below w.heap.size w w' := by
  have HI := Lib.hid hi
  have HJ := Lib.hid hj.ints
  have HT := Lib.hid hT
  have HZ := Lib.hid hz
  have hzl := hj.1
  have HL : Hid (l.length = 8 * M) := Lib.hid (by rw [hi.1, hM])
  have t1 : ((len : Int) == 0) = false := by simp; omega
  have t2 : (len : Int) % 8 = 0 := by omega
  have t3 : (len : Int) ≤ 600 := by omega
  have t4 : (bl : Int) ≤ 100 := by omega
  have t5 : (len : Int) / 8 = (M : Int) := by omega
  have hl6 : len ≤ 600 := by omega
  have hl7 : (len + 7) / 8 = M := by omega
  have HM := Lib.hid hM
  have HL7 := Lib.hid hl7
  clear hi hj hT hz hM hl7
  go_enter Tryd.func4, Tryd.ntmps4
  go_wp2_with fail
  refine (known_any _ HT.out).mono ?_
  rintro e w1 ⟨rfl, rfl⟩
  go_wp2_with fail
  refine (wordsB_own a len cap l _ HI.out (by omega) hc HT.out).mono ?_
  rintro e w2 ⟨⟨v, rfl, hown⟩, hb2⟩
  rw [HL7.out] at hown
  obtain ⟨gc, capc, rfl⟩ := own_shape hown (by omega)
  have hgc := hown.lt gc rfl
  have HC2 := Lib.hid hown
  have HB2 := Lib.hid hb2
  have hsz2 := hb2.size
  have hi2 := HI.out.below hb2 (Nat.le_refl _)
  have HI2 := Lib.hid hi2
  clear hown hb2 hi2
  go_wp2_with (at_builtin; refine Stop.mk ?_)
  refine Stop.go ?_
  refine wpList_app_u8 rfl _ _ 22 rfl w2.heap.size 5 Tryd.underlying22 Tryd.infoU8 (.slice (some ⟨w2.heap.size, 0, none⟩) 0 0) 0 [] rfl (own_empty (Nat.le_refl _)) a len cap l rfl (HI2.out.alloc _) hnil (by omega) (by simp) ?_
  intro v3 w3 hown3 hgrow3
  rw [Nat.zero_add, List.nil_append] at hown3
  obtain ⟨gx, capx, rfl⟩ := own_shape hown3 (by have := HM.out; omega)
  have hb23 : Below w2.heap.size w2 w3 := ((Below.refl _ _).alloc (Nat.le_refl _) _).grown hgrow3 (by simp) (fun k hk => by simp [Value.ownBlock] at hk; omega)
  have hgx := hown3.lt gx rfl
  have HTwo : Hid (Two w.heap.size w3 gx len capx l gc M capc (wordsOf l)) := Lib.hid ⟨own_mono hown3 hsz2, own_below HC2.out hb23 (Nat.le_refl _), by omega⟩
  have HB3 : Hid (Below w.heap.size w w3) := Lib.hid (HB2.out.trans (hb23.mono hsz2))
  have HT0 : Hid (TurnedTo l zs M 0 l (wordsOf l)) := Lib.hid (turned_zero HI.out.2.1 zs M HL.out)
  have hcx : len ≤ capx := by
    rcases hown3.2 with ⟨h, _⟩ | ⟨g, c, cur, h, _, _, h1, _⟩
    · simp at h
    · simp at h; omega
  have hcc : M ≤ capc := by
    rcases HC2.out.2 with ⟨h, _⟩ | ⟨g, c, cur, h, _, _, h1, _⟩
    · simp at h
    · simp at h; omega
  clear hown3 hgrow3 hb23 HC2 HI2 HB2 hgc hgx hsz2
  go_wp2_with fail
  go_loopw [9, 10] (fun n i wr => ∃ (k : Nat) (x c : List Nat), k ≤ M ∧ i = .int .i64 (k : Int) ∧ n = .int .i64 (countTo zs k : Nat) ∧ Hid (TurnedTo l zs M k x c) ∧ Hid (Two w.heap.size wr gx len capx x gc M capc c) ∧ Hid (Below w.heap.size w wr)) (fun _ i _ => M - (intOf i).toNat)
  case atStart => exact ⟨0, l, wordsOf l, by omega, rfl, rfl, HT0, HTwo, HB3⟩
  case round =>
    obtain ⟨k, x, c, hk, rfl, rfl, HTu, HTw, HB⟩ := hrel
    obtain ⟨wo, rfl⟩ : ∃ wo : World, wo = wr := ⟨_, rfl⟩
    have hcnt := countTo_le zs k
    by_cases hlt : k < M ∧ k < bl
    · obtain ⟨hkM, hkb⟩ := hlt
      obtain ⟨b2, o2, rfl, hb2l, hcell⟩ := HJ.out.2 (by omega)
      have hck : wo.cell? ⟨b2, o2 + k, none⟩ = some (.int .i64 (zs.getD k 0)) := (HB.out.cell (p := ⟨b2, o2 + k, none⟩) hb2l).trans (hcell k hkb)
      obtain ⟨z, hze⟩ : ∃ z, z = zs.getD k 0 := ⟨_, rfl⟩
      have hz64 : I64 z := by
        rw [hze]
        have : zs.getD k 0 ∈ zs := by simp [List.getD, show k < zs.length by omega]
        exact HZ.out _ this
      rw [← hze] at hck
      have t20 : (k : Int) < (M : Int) := by omega
      have t21 : (k : Int) < (bl : Int) := by omega
      have t22 : (0 : Int) ≤ (k : Int) := by omega
      unfold I64 at hz64
      by_cases hz0 : z < 0
      · have htn : turnOf zs k = none := by unfold turnOf; rw [if_neg (by rw [← hze]; omega)]
        have HT2 := Lib.hid (turned_skip HTu.out htn)
        have hc2 := countTo_none htn
        have HC2 := Lib.hid hc2
        clear hcell hze htn hc2
        go_wp2
        go_roundw
        case rel => exact ⟨k + 1, x, c, by omega, by go_num, by rw [HC2.out], HT2, HTw, HB⟩
        case measure => simp [intOf]; omega
      · obtain ⟨zn, hzn⟩ : ∃ zn : Nat, z = zn := ⟨z.toNat, by omega⟩
        have htn : turnOf zs k = some (zn % 72) := by unfold turnOf; rw [if_pos (by rw [← hze]; omega), ← hze, hzn]; rfl
        subst hzn
        have HT2 := Lib.hid (turned_step HTu.out hkM htn)
        have HC2 := Lib.hid (countTo_some htn)
        obtain ⟨q, hq⟩ : ∃ q, q = zn % 72 := ⟨_, rfl⟩
        have hq72 : q < 72 := by omega
        have hqi : (zn : Int) % 72 = (q : Int) := by omega
        rw [← hq] at HT2
        have hx256 := HTu.out.2.2.1
        have hc256 := HTu.out.2.2.2.1
        have HX := Lib.hid hx256
        have HCC := Lib.hid hc256
        have hszo := HB.out.size
        clear hcell hze htn hq hx256 hc256
        go_wp2_with (go_at_call 14; refine (flip_two M k q HTw.out HX.out HCC.out HM.out rfl hkM (by omega) hq72 hcx hcc hszo).mono ?_; rintro e w5 ⟨rfl, hTw5, hb5⟩; have HTw5 := Lib.hid hTw5; have HB5 := Lib.hid (HB.out.trans hb5); clear hTw5 hb5)
        go_roundw
        case rel => exact ⟨k + 1, flipX x k q, flipC c k q, by omega, by go_num, by rw [HC2.out]; go_num, HT2, HTw5, HB5⟩
        case measure => simp [intOf]; omega
    · have hpast : TurnedTo l zs M M x c ∧ countTo zs k = countTo zs M := by
        by_cases hkM : k = M
        · subst hkM; exact ⟨HTu.out, rfl⟩
        · have := turned_past (M - k) k (by omega) HTu.out
          rw [show k + (M - k) = M by omega] at this
          exact ⟨this.1, this.2.symm⟩
      have hex : (¬ ((k : Int) < (M : Int))) ∨ ((k : Int) < (M : Int) ∧ ¬ ((k : Int) < (bl : Int))) := by omega
      have hA : mendAllS x c = some (l, countTo zs k) := by rw [hpast.2]; exact mendAll_at HI.out.2.1 zs HL.out hpast.1
      have HTM := Lib.hid hpast.1
      have HA := Lib.hid hA
      obtain ⟨N, hN⟩ : ∃ N, N = countTo zs k := ⟨_, rfl⟩
      rw [← hN] at HA hcnt ⊢
      have hby := HTw.out.bytes hpast.1.2.2.1 hpast.1.2.2.2.1
      have HBX := Lib.hid hby.1
      have HBC := Lib.hid hby.2
      have HX := Lib.hid hpast.1.2.2.1
      have HCC := Lib.hid hpast.1.2.2.2.1
      have HTo := Lib.hid (Deb.below HT.out HB.out (Nat.le_refl _))
      have hszo := HB.out.size
      have hsg : ∃ I : Nat, I < M ∧ ((tw.tmod (M : Int) = (I : Int)) ∨ (0 < I ∧ tw.tmod (M : Int) = -(I : Int))) := by
        have h1 := Int.tmod_lt_of_pos tw (show (0 : Int) < (M : Int) by omega)
        have h2 := Int.lt_tmod_of_pos tw (show (0 : Int) < (M : Int) by omega)
        by_cases h0 : 0 ≤ tw.tmod (M : Int)
        · exact ⟨(tw.tmod (M : Int)).toNat, by omega, .inl (by omega)⟩
        · exact ⟨(-(tw.tmod (M : Int))).toNat, by omega, .inr ⟨by omega, by omega⟩⟩
      obtain ⟨I, hIM, hsg⟩ := hsg
      have t40 : ((M : Int) == 0) = false := by simp; omega
      have t41 : ¬ ((M : Int) = 0) := by omega
      have t42 : (0 : Int) ≤ (I : Int) := by omega
      have t43 : (I : Int) < (M : Int) := by omega
      clear hpast hA hN hby
      by_cases hIb : I < bl
      · obtain ⟨b2, o2, rfl, hb2l, hcell⟩ := HJ.out.2 (by omega)
        have hck : wo.cell? ⟨b2, o2 + I, none⟩ = some (.int .i64 (zs.getD I 0)) := (HB.out.cell (p := ⟨b2, o2 + I, none⟩) hb2l).trans (hcell I hIb)
        have hb2o : b2 < wo.heap.size := by omega
        have HCk := Lib.hid hck
        obtain ⟨z, hze⟩ : ∃ z, z = zs.getD I 0 := ⟨_, rfl⟩
        have hz64 : I64 z := by
          rw [hze]
          have : zs.getD I 0 ∈ zs := by simp [List.getD, show I < zs.length by omega]
          exact HZ.out _ this
        rw [← hze] at HCk
        have t44 : (I : Int) < (bl : Int) := by omega
        unfold I64 at hz64
        clear hck hcell
        by_cases hz0 : z < 0
        · have htn : turnOf zs I = none := by unfold turnOf; rw [if_neg (by rw [← hze]; omega)]
          have hA2 : mendAllS (flipX (flipX x I 0) I 1) (flipC (flipC c I 0) I 1) = none := mendAll_two HI.out.2.1 zs HL.out HTM.out I 0 1 hIM _ _ (.inr ⟨htn, rfl, rfl⟩) (by omega) (by omega) (by omega)
          have HA2 := Lib.hid hA2
          have hX0 := flipX_lt HX.out I 0
          have hC0 := flipC_lt HCC.out I 0 (by omega)
          have HX0 := Lib.hid hX0
          have HC0 := Lib.hid hC0
          clear htn hA2 hX0 hC0 hze
          rcases hex with t30 | ⟨t30, t31⟩ <;> rcases hsg with t33 | ⟨t32, t33⟩ <;> (
            go_wp2_with fail
            refine (mendAllB_any (some ⟨gx, 0, none⟩) len capx x (some ⟨gc, 0, none⟩) M capc c _ HBX.out HBC.out (by omega) (by omega) hcx hcc HTo.out).mono ?_
            rintro e w4 ⟨hv, hb4⟩
            rw [HA.out] at hv
            obtain ⟨v, rfl, b4, cap4, rfl, hy4, _⟩ := hv
            have hs1 := str_below hy4 cap4
            have hs2 := str_below (HI.out.below (HB.out.trans (hb4.mono hszo)) (Nat.le_refl _)) cap
            have hs1r := hs1 w4 (Below.refl _ _)
            have hs2r := hs2 w4 (Below.refl _ _)
            have hcz := (hb4.cell (p := ⟨b2, o2 + I, none⟩) hb2o).trans HCk.out
            have HTw4 := Lib.hid (HTw.out.below hb4)
            have HB4 := Lib.hid (HB.out.trans (hb4.mono hszo))
            have hsz4 := HB4.out.size
            clear hs1 hs2 hy4 hb4
            go_wp2_with fail
            refine (flip_as M I 0 0 rfl HTw4.out HX.out HCC.out HM.out rfl hIM (by omega) (by omega) hcx hcc hsz4).mono ?_
            rintro e w5 ⟨rfl, hTw5, hb5⟩
            have HTw5 := Lib.hid hTw5
            have HB5 := Lib.hid (HB4.out.trans hb5)
            have hsz5 := HB5.out.size
            clear hTw5 hb5
            go_wp2_with fail
            refine (flip_as M I 1 1 rfl HTw5.out HX0.out HC0.out HM.out rfl hIM (by omega) (by omega) hcx hcc hsz5).mono ?_
            rintro e w7 ⟨rfl, hTw7, hb7⟩
            have HBX7 := Lib.hid (hTw7.bytes (flipX_lt HX0.out I 1) (flipC_lt HC0.out I 1 (by omega))).1
            have HBC7 := Lib.hid (hTw7.bytes (flipX_lt HX0.out I 1) (flipC_lt HC0.out I 1 (by omega))).2
            have HB7 := Lib.hid (HB5.out.trans hb7)
            have HTo7 := Lib.hid (Deb.below HT.out HB7.out (Nat.le_refl _))
            have hsz7 := HB7.out.size
            clear hTw7 hb7
            go_wp2_with fail
            refine (mendAllB_any (some ⟨gx, 0, none⟩) len capx (flipX (flipX x I 0) I 1) (some ⟨gc, 0, none⟩) M capc (flipC (flipC c I 0) I 1) _ HBX7.out HBC7.out (by omega) (by omega) hcx hcc HTo7.out).mono ?_
            rintro e w6 ⟨hv, hb6⟩
            rw [HA2.out] at hv
            obtain rfl := hv
            go_wp2_with fail
            go_ret
            exact ⟨rfl, HB7.out.trans (hb6.mono hsz7)⟩)
        · obtain ⟨zn, hzn⟩ : ∃ zn : Nat, z = zn := ⟨z.toNat, by omega⟩
          have htn : turnOf zs I = some (zn % 72) := by unfold turnOf; rw [if_pos (by rw [← hze]; omega), ← hze, hzn]; rfl
          subst hzn
          obtain ⟨q, hq⟩ : ∃ q, q = zn % 72 := ⟨_, rfl⟩
          obtain ⟨q2, hq2⟩ : ∃ q2, q2 = (q + 1) % 72 := ⟨_, rfl⟩
          have hq72 : q < 72 := by omega
          have hq722 : q2 < 72 := by omega
          have hqi : (zn : Int) % 72 = (q : Int) := by omega
          have hqi2 : ((q : Int) + 1) % 72 = (q2 : Int) := by omega
          have hA2 : mendAllS (flipX x I q2) (flipC c I q2) = none := mendAll_two HI.out.2.1 zs HL.out HTM.out I q q2 hIM _ _ (.inl ⟨by rw [htn, hq], rfl, rfl⟩) hq72 hq722 (by omega)
          have HA2 := Lib.hid hA2
          clear hze htn hq hq2 hA2
          rcases hex with t30 | ⟨t30, t31⟩ <;> rcases hsg with t33 | ⟨t32, t33⟩ <;> (
            go_wp2_with fail
            refine (mendAllB_any (some ⟨gx, 0, none⟩) len capx x (some ⟨gc, 0, none⟩) M capc c _ HBX.out HBC.out (by omega) (by omega) hcx hcc HTo.out).mono ?_
            rintro e w4 ⟨hv, hb4⟩
            rw [HA.out] at hv
            obtain ⟨v, rfl, b4, cap4, rfl, hy4, _⟩ := hv
            have hs1 := str_below hy4 cap4
            have hs2 := str_below (HI.out.below (HB.out.trans (hb4.mono hszo)) (Nat.le_refl _)) cap
            have hs1r := hs1 w4 (Below.refl _ _)
            have hs2r := hs2 w4 (Below.refl _ _)
            have hcz := (hb4.cell (p := ⟨b2, o2 + I, none⟩) hb2o).trans HCk.out
            have HTw4 := Lib.hid (HTw.out.below hb4)
            have HB4 := Lib.hid (HB.out.trans (hb4.mono hszo))
            have hsz4 := HB4.out.size
            clear hs1 hs2 hy4 hb4
            go_wp2_with fail
            refine (flip_two M I q2 HTw4.out HX.out HCC.out HM.out rfl hIM (by omega) hq722 hcx hcc hsz4).mono ?_
            rintro e w5 ⟨rfl, hTw5, hb5⟩
            have HBX5 := Lib.hid (hTw5.bytes (flipX_lt HX.out I q2) (flipC_lt HCC.out I q2 hq722)).1
            have HBC5 := Lib.hid (hTw5.bytes (flipX_lt HX.out I q2) (flipC_lt HCC.out I q2 hq722)).2
            have HB5 := Lib.hid (HB4.out.trans hb5)
            have HTo5 := Lib.hid (Deb.below HT.out HB5.out (Nat.le_refl _))
            have hsz5 := HB5.out.size
            clear hTw5 hb5
            go_wp2_with fail
            refine (mendAllB_any (some ⟨gx, 0, none⟩) len capx (flipX x I q2) (some ⟨gc, 0, none⟩) M capc (flipC c I q2) _ HBX5.out HBC5.out (by omega) (by omega) hcx hcc HTo5.out).mono ?_
            rintro e w6 ⟨hv, hb6⟩
            rw [HA2.out] at hv
            obtain rfl := hv
            go_wp2_with fail
            go_ret
            exact ⟨rfl, HB5.out.trans (hb6.mono hsz5)⟩)
      · have htn : turnOf zs I = none := turnOf_past (by omega)
        have t44 : ¬ ((I : Int) < (bl : Int)) := by omega
        have hA2 : mendAllS (flipX (flipX x I 0) I 1) (flipC (flipC c I 0) I 1) = none := mendAll_two HI.out.2.1 zs HL.out HTM.out I 0 1 hIM _ _ (.inr ⟨htn, rfl, rfl⟩) (by omega) (by omega) (by omega)
        have HA2 := Lib.hid hA2
        have hX0 := flipX_lt HX.out I 0
        have hC0 := flipC_lt HCC.out I 0 (by omega)
        have HX0 := Lib.hid hX0
        have HC0 := Lib.hid hC0
        clear htn hA2 hX0 hC0
        rcases hex with t30 | ⟨t30, t31⟩ <;> rcases hsg with t33 | ⟨t32, t33⟩ <;> (
          go_wp2_with fail
          refine (mendAllB_any (some ⟨gx, 0, none⟩) len capx x (some ⟨gc, 0, none⟩) M capc c _ HBX.out HBC.out (by omega) (by omega) hcx hcc HTo.out).mono ?_
          rintro e w4 ⟨hv, hb4⟩
          rw [HA.out] at hv
          obtain ⟨v, rfl, b4, cap4, rfl, hy4, _⟩ := hv
          have hs1 := str_below hy4 cap4
          have hs2 := str_below (HI.out.below (HB.out.trans (hb4.mono hszo)) (Nat.le_refl _)) cap
          have hs1r := hs1 w4 (Below.refl _ _)
          have hs2r := hs2 w4 (Below.refl _ _)
          have HTw4 := Lib.hid (HTw.out.below hb4)
          have HB4 := Lib.hid (HB.out.trans (hb4.mono hszo))
          have hsz4 := HB4.out.size
          clear hs1 hs2 hy4 hb4
          go_wp2_with fail
          refine (flip_as M I 0 0 rfl HTw4.out HX.out HCC.out HM.out rfl hIM (by omega) (by omega) hcx hcc hsz4).mono ?_
          rintro e w5 ⟨rfl, hTw5, hb5⟩
          have HTw5 := Lib.hid hTw5
          have HB5 := Lib.hid (HB4.out.trans hb5)
          have hsz5 := HB5.out.size
          clear hTw5 hb5
          go_wp2_with fail
          refine (flip_as M I 1 1 rfl HTw5.out HX0.out HC0.out HM.out rfl hIM (by omega) (by omega) hcx hcc hsz5).mono ?_
          rintro e w7 ⟨rfl, hTw7, hb7⟩
          have HBX7 := Lib.hid (hTw7.bytes (flipX_lt HX0.out I 1) (flipC_lt HC0.out I 1 (by omega))).1
          have HBC7 := Lib.hid (hTw7.bytes (flipX_lt HX0.out I 1) (flipC_lt HC0.out I 1 (by omega))).2
          have HB7 := Lib.hid (HB5.out.trans hb7)
          have HTo7 := Lib.hid (Deb.below HT.out HB7.out (Nat.le_refl _))
          have hsz7 := HB7.out.size
          clear hTw7 hb7
          go_wp2_with fail
          refine (mendAllB_any (some ⟨gx, 0, none⟩) len capx (flipX (flipX x I 0) I 1) (some ⟨gc, 0, none⟩) M capc (flipC (flipC c I 0) I 1) _ HBX7.out HBC7.out (by omega) (by omega) hcx hcc HTo7.out).mono ?_
          rintro e w6 ⟨hv, hb6⟩
          rw [HA2.out] at hv
          obtain rfl := hv
          go_wp2_with fail
          go_ret
          exact ⟨rfl, HB7.out.trans (hb6.mono hsz7)⟩)

end Go.Proofs.YtfefjabdfelhnaaDoor
