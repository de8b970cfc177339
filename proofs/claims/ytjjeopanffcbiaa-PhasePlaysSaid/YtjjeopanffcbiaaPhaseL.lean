/- PhasePlays. -/
import Derived.Test.YtjjeopanffcbiaaPhaseK
import Derived.Deep.DeepCutAuto
import Derived.Deep.CutBlock
namespace Go.Proofs.Ytjjeopanffcbiaa
open Go Go.RowKit Go.Maps
set_option linter.unusedVariables false

theorem rmach_new (w : World) : RMach (w.alloc (.cells #[.int .i64 0, .int .i64 0, .int .u16 0] 101)) w.heap.size 0 0 0 := HasB.new w _ _
theorem HasB.five {w : World} {g : Nat} {a0 a1 a2 a3 a4 : Value} {T : TypeId} (h : HasB w g #[a0, a1, a2, a3, a4] T) :
    g < w.heap.size ∧ w.cell? ⟨g, 0, none⟩ = some a0 ∧ w.cell? ⟨g, 1, none⟩ = some a1 ∧ w.cell? ⟨g, 2, none⟩ = some a2 ∧ w.cell? ⟨g, 3, none⟩ = some a3 ∧ w.cell? ⟨g, 4, none⟩ = some a4 :=
  ⟨h.lt, h.at 0, h.at 1, h.at 2, h.at 3, h.at 4⟩

/-- What holds at each round's head: both machines are alike. -/
def Both (W wr : World) (g g2 : Nat) (s a l : Int) : Prop := Mach wr g s a l ∧ RMach wr g2 s l a ∧ g ≠ g2 ∧ W.heap.size ≤ g ∧ W.heap.size ≤ g2 ∧ OkM s a l ∧ Below W.heap.size W wr

/-- Inside a round: the act has a block of its own. -/
def InRound (W wx : World) (gA g g2 : Nat) (zo zi za : Int) (zm : Bool) (zn : Int) (s a l : Int) : Prop := HasB wx gA #[.int .i64 zo, .int .i64 zi, .int .u32 za, .bool zm, .int .i64 zn] 65 ∧ Both W wx g g2 s a l ∧ gA ≠ g ∧ gA ≠ g2 ∧ W.heap.size ≤ gA
theorem u32_within (op : BinOp) (a b : Int) : 0 ≤ bits op .u32 a b ∧ bits op .u32 a b < 4294967296 := by
  have h := bits_within op .u32 a b
  simp [IntKind.min, IntKind.max, IntKind.signed, IntKind.bits] at h
  omega

set_option maxRecDepth 100000 in
set_option maxHeartbeats 8000000 in
theorem plays_walk (a : Option Addr) (len cap : Nat) (l : List PAct) (W : World) (hm : len ≤ 400) (hl : Rws 5 PAct.cells W a len l) (hwf : ∀ x ∈ l, x.wf) :
    Calls Try.prog 10 #[.slice a len cap] W fun e w' => e = .returned (.bool true) ∧ Below W.heap.size W w' := by
  have hll := hl.1
  have HL := Lib.hid hl
  have HWf := Lib.hid hwf
  clear hwf hl
  have hmf : decide (400 < (len : Int)) = false := by simp; omega
  go_enter Try.func10, Try.ntmps10
  go_wp2_with fail
  refine (pknown_any _).mono ?_
  rintro e w1 ⟨rfl, hb1⟩
  have hs1 := hb1.size
  have HB1 := Lib.hid hb1
  clear hb1
  go_wp2_with fail
  refine (new_any _).mono ?_
  rintro e w2 ⟨⟨rfl, hM2⟩, hb2⟩
  obtain ⟨g, hg⟩ : ∃ g, g = w1.heap.size := ⟨_, rfl⟩
  have hB2 := HB1.out.trans (hb2.mono hs1)
  rw [← hg] at hM2 ⊢
  have hgW : W.heap.size ≤ g := by omega
  have HStart : Hid (Both W (w2.alloc (.cells #[.int .i64 0, .int .i64 0, .int .u16 0] 101)) g w2.heap.size 0 0 0) :=
    Lib.hid ⟨hM2.alloc _, rmach_new w2, Nat.ne_of_lt hM2.lt, hgW, hB2.size, OkM.start, hB2.alloc hB2.size _⟩
  clear hM2 hb2 hs1 HB1 hg hB2
  go_wp2_with fail
  go_loopw [4, 5] (fun p i wr => ∃ (k g2 : Nat) (s a l : Int), k ≤ len ∧ i = .int .i64 k ∧ p = .pointer (some ⟨g2, 0, none⟩) ∧ Hid (Both W wr g g2 s a l)) (fun _ i _ => len - (intOf i).toNat)
  case atStart => exact ⟨0, w2.heap.size, 0, 0, 0, by omega, rfl, rfl, HStart⟩
  case round =>
    obtain ⟨k, g2, s, am, lm, hk, rfl, rfl, HBo⟩ := hrel
    obtain ⟨wo, rfl⟩ : ∃ wo : World, wo = wr := ⟨_, rfl⟩
    by_cases hlt : k < len
    · have hx : l[k]? = some l[k] := List.getElem?_eq_getElem (by omega)
      obtain ⟨z, HZ⟩ : ∃ z, Hid (z = l[k]) := ⟨_, Lib.hid rfl⟩
      rw [← HZ.out] at hx
      clear HZ
      obtain ⟨b, off, rfl, hbb, hc⟩ := HL.out.2 (by omega)
      clear hc
      obtain ⟨hM, hR, hne, hgW, hgW2, hOK, hB⟩ := HBo.out
      obtain ⟨hlt3, hc0, hc1, hc2, hc3, hc4⟩ := PAct.fiveAt HL.out hB hlt hx
      have hzw := HWf.out z (List.mem_of_getElem? hx)
      obtain ⟨z1, z2, ⟨z3, z4⟩, z5⟩ := hzw
      clear hx
      obtain ⟨zo, zi, za, zm, zn⟩ := z
      dsimp only at hc0 hc1 hc2 hc3 hc4 z1 z2 z3 z4 z5
      have hmlt := hM.lt
      have hrlt := hR.lt
      have hA := HasB.new wo #[.int .i64 zo, .int .i64 zi, .int .u32 za, .bool zm, .int .i64 zn] 65
      have hMA := hM.alloc (.cells #[.int .i64 zo, .int .i64 zi, .int .u32 za, .bool zm, .int .i64 zn] 65)
      have hRA := hR.alloc (.cells #[.int .i64 zo, .int .i64 zi, .int .u32 za, .bool zm, .int .i64 zn] 65)
      have hBA := hB.alloc hB.size (.cells #[.int .i64 zo, .int .i64 zi, .int .u32 za, .bool zm, .int .i64 zn] 65)
      obtain ⟨hr0, rc0, rc1, rc2⟩ := hRA.three
      have HIn : Hid (InRound W (wo.alloc (.cells #[.int .i64 zo, .int .i64 zi, .int .u32 za, .bool zm, .int .i64 zn] 65)) wo.heap.size g g2 zo zi za zm zn s am lm) :=
        Lib.hid ⟨hA, ⟨hMA, hRA, hne, hgW, hgW2, hOK, hBA⟩, Nat.ne_of_gt hmlt, Nat.ne_of_gt hrlt, hB.size⟩
      obtain ⟨_, am0, am1, _, _⟩ := hOK
      clear hA hMA hRA hBA hM hR hB rc0 rc1 HBo hr0
      go_upto_if 35 with fail
      go_cut [7] (fun v wx => ∃ y : Int, v = .int .u32 y ∧ 0 ≤ y ∧ y < 4294967296 ∧ Hid (InRound W wx wo.heap.size g g2 zo zi za zm zn s am lm))
      case first =>
        cases zm
        · go_wp2
          go_meet
          case rel => exact ⟨za, rfl, z3, z4, HIn⟩
        · go_wp2
          go_meet
          case rel => exact ⟨_, rfl, (u32_within _ _ _).1, (u32_within _ _ _).2, HIn⟩
      case rest =>
        obtain ⟨y, rfl, y0, y1, HIn2⟩ := hcut
        obtain ⟨gA, hgA⟩ : ∃ gA, gA = wo.heap.size := ⟨_, rfl⟩
        rw [← hgA] at HIn2 ⊢
        clear hgA HIn rc2 hc0 hc1 hc2 hc3 hc4
        obtain ⟨wB, rfl⟩ : ∃ wB : World, wB = wc := ⟨_, rfl⟩
        obtain ⟨hA, ⟨hM, hR, _, _, _, hOK, hB⟩, hn1, hn2, hgAW⟩ := HIn2.out
        obtain ⟨hltA, a0, a1, a2, a3, a4⟩ := hA.five
        have HA := Lib.hid hA
        have HM := Lib.hid hM
        have HR := Lib.hid hR
        have HB := Lib.hid hB
        have HOK := Lib.hid hOK
        clear hA hM hR hB hOK a2 a3 a4
        clear a1
        go_upto_block 2 with fail
        go_cut [4, 8, 9, 10, 11] (fun p v8 v9 v10 v11 wx => ∃ (g3 : Nat) (s' a' l' : Int), p = .pointer (some ⟨g3, 0, none⟩) ∧ Hid (Both W wx g g3 s' a' l'))
        case first =>
          have a4 : wB.cell? ⟨gA, 4, none⟩ = some (.int .i64 zn) := HA.out.at 4
          have nA : some gA ≠ some g := fun e => hn1 (Option.some.inj e)
          have nA2 : some gA ≠ some g2 := fun e => hn2 (Option.some.inj e)
          have n12 : some g ≠ some g2 := fun e => hne (Option.some.inj e)
          have n21 : some g2 ≠ some g := fun e => hne (Option.some.inj e).symm
          have NA := Lib.hid nA
          have NA2 := Lib.hid nA2
          have N12 := Lib.hid n12
          have N21 := Lib.hid n21
          clear nA nA2 n12 n21
          by_cases o1 : zo = 1
          · subst o1
            have K1 : ∀ w', Below wB.heap.size wB w' → w'.cell? ⟨gA, 1, none⟩ = some (.int .i64 zi) := fun w' h => (HA.out.below h HA.out.lt).at 1
            go_upto_region 18 with fail
            refine wp_region_held_drew (S := (fun w' => Below wB.heap.size wB w')) (by kernel_rfl) ((Below.refl _ _).drew) (fun hHeld => ?_)
            refine held_take 0 (v := ?_) rfl (by kernel_rfl) (by kernel_rfl) (by kernel_rfl) (fun _ _ _ h => h) (by rfl) (fun w hS => ?_) (by assumption) ?_
            rotate_left
            · try dsimp only at hS
              go_simp <;> with_reducible rfl
            try simp only [Act.put, List.setIfInBounds_toArray, List.set_cons_zero, List.set_cons_succ]
            refine held_take 1 (v := ?_) rfl (by kernel_rfl) (by kernel_rfl) (by kernel_rfl) (fun _ _ _ h => h) (by rfl) (fun w hS => ?_) (by assumption) ?_
            rotate_left
            · try dsimp only at hS
              go_simp <;> with_reducible rfl
            try simp only [Act.put, List.setIfInBounds_toArray, List.set_cons_zero, List.set_cons_succ]
            refine held_take 2 (v := ?_) rfl (by kernel_rfl) (by kernel_rfl) (by kernel_rfl) (fun _ _ _ h => h) (by rfl) (fun w hS => ?_) (by assumption) ?_
            rotate_left
            · try dsimp only at hS
              go_simp <;> with_reducible rfl
            try simp only [Act.put, List.setIfInBounds_toArray, List.set_cons_zero, List.set_cons_succ]
            refine held_take 3 (v := ?_) rfl (by kernel_rfl) (by kernel_rfl) (by kernel_rfl) (fun _ _ _ h => h) (by rfl) (fun w hS => ?_) (by assumption) ?_
            rotate_left
            · try dsimp only at hS
              go_simp <;> with_reducible rfl
            try simp only [Act.put, List.setIfInBounds_toArray, List.set_cons_zero, List.set_cons_succ]
            refine held_take 5 (v := ?_) rfl (by kernel_rfl) (by kernel_rfl) (by kernel_rfl) (fun _ _ _ h => h) (by rfl) (fun w hS => ?_) (by assumption) ?_
            rotate_left
            · try dsimp only at hS
              go_simp <;> with_reducible rfl
            try simp only [Act.put, List.setIfInBounds_toArray, List.set_cons_zero, List.set_cons_succ]
            refine held_take 6 (v := ?_) rfl (by kernel_rfl) (by kernel_rfl) (by kernel_rfl) (fun _ _ _ h => h) (by rfl) (fun w hS => ?_) (by assumption) ?_
            rotate_left
            · try dsimp only at hS
              go_simp <;> with_reducible rfl
            try simp only [Act.put, List.setIfInBounds_toArray, List.set_cons_zero, List.set_cons_succ]
            refine held_take 7 (v := ?_) rfl (by kernel_rfl) (by kernel_rfl) (by kernel_rfl) (fun _ _ _ h => h) (by rfl) (fun w hS => ?_) (by assumption) ?_
            rotate_left
            · try dsimp only at hS
              go_simp <;> with_reducible rfl
            try simp only [Act.put, List.setIfInBounds_toArray, List.set_cons_zero, List.set_cons_succ]
            refine held_take 8 (v := ?_) rfl (by kernel_rfl) (by kernel_rfl) (by kernel_rfl) (fun _ _ _ h => h) (by rfl) (fun w hS => ?_) (by assumption) ?_
            rotate_left
            · try dsimp only at hS
              go_simp <;> with_reducible rfl
            try simp only [Act.put, List.setIfInBounds_toArray, List.set_cons_zero, List.set_cons_succ]
            refine held_one 4 rfl (by kernel_rfl) (fun K hK => ?_)
            go_simp
            refine (legal_any g s am lm zi y _ HM.out.drew HOK.out.i64 z2 y0 y1).mono ?_
            rintro e wl1 ⟨rfl, hb⟩
            have hb18 : Below wB.heap.size wB wl1 := (Below.refl _ _).drew.trans hb
            refine hK.out _ _ (fun w' => Below wB.heap.size wB w') (fun _ h => h) hb18 (fun hHeld => ?_)
            clear hK K
            try simp only [Act.put, List.setIfInBounds_toArray, List.set_cons_zero, List.set_cons_succ]
            refine held_one 9 rfl (by kernel_rfl) (fun K hK => ?_)
            go_simp
            refine (rlegal_any g2 s lm am zi y _ (HR.out.below hb18 HR.out.lt) y0 y1).mono ?_
            rintro e wl2 ⟨rfl, hb⟩
            have hb19 : Below wB.heap.size wB wl2 := hb18.trans (hb.mono hb18.size)
            refine hK.out _ _ (fun w' => Below wB.heap.size wB w') (fun _ h => h) hb19 (fun hHeld => ?_)
            clear hK K
            try simp only [Act.put, List.setIfInBounds_toArray, List.set_cons_zero, List.set_cons_succ]
            refine held_take 10 (v := ?_) rfl (by kernel_rfl) (by kernel_rfl) (by kernel_rfl) (fun _ _ _ h => h) (by rfl) (fun w hS => ?_) (by assumption) ?_
            rotate_left
            · try dsimp only at hS
              go_simp <;> with_reducible rfl
            try simp only [Act.put, List.setIfInBounds_toArray, List.set_cons_zero, List.set_cons_succ]
            refine held_done (by kernel_rfl) ?_
            have hM3 := HM.out.below hb19 HM.out.lt
            have hR3 := HR.out.below hb19 HR.out.lt
            have hA3 := HA.out.below hb19 HA.out.lt
            have hB3 := HB.out.trans (hb19.mono HB.out.size)
            have HM3 := Lib.hid hM3
            have HR3 := Lib.hid hR3
            have HA3 := Lib.hid hA3
            have HB3 := Lib.hid hB3
            have i3 : wl2.cell? ⟨gA, 1, none⟩ = some (.int .i64 zi) := hA3.at 1
            clear hM3 hR3 hA3 hB3 hb18 hb19 K1 a0 a4
            have hGok := HOK.out.go (i := zi) y0 y1
            obtain ⟨G, hG⟩ : ∃ G, G = goS s am lm zi y := ⟨_, rfl⟩
            rw [← hG] at hGok
            have HGok := Lib.hid hGok
            have HG := Lib.hid hG
            clear hGok hG
            go_wp2_with fail
            refine (go_any g s am lm zi y _ HM3.out HOK.out.i64 z2 y0 y1).mono ?_
            rintro e wE ⟨⟨rfl, hME⟩, hgE⟩
            rw [← HG.out] at hME ⊢
            have HME := Lib.hid hME
            have HRE := Lib.hid (HR3.out.kept hgE N21.out)
            have i4 : wE.cell? ⟨gA, 1, none⟩ = some (.int .i64 zi) := (HA3.out.kept hgE NA.out).at 1
            have HBE := Lib.hid (below_gb HB3.out hgE HB3.out.size hgW)
            clear hME hgE HM3 HR3 HA3 HB3 i3
            go_wp2_with fail
            refine (rgo_any g2 s lm am zi y _ HRE.out y0 y1).mono ?_
            rintro e wF ⟨⟨rfl, hRF⟩, hgF⟩
            rw [← HG.out] at hRF ⊢
            have HBoF : Hid (Both W wF g g2 G.1 G.2.1 G.2.2.1) := Lib.hid ⟨HME.out.kept hgF N12.out, hRF, hne, hgW, hgW2, HGok.out, below_gb HBE.out hgF HBE.out.size hgW2⟩
            clear hRF hgF HME HRE i4 HBE
            go_wp2
            go_meet
            case rel => exact ⟨g2, _, _, _, rfl, HBoF⟩
          · have b1 : (zo == 1) = false := by simpa using o1
            by_cases o2 : zo = 2
            · subst o2
              clear b1 o1
              go_wp2_with fail
              refine (receive_any g s am lm zn _ HM.out).mono ?_
              rintro e wE ⟨⟨rfl, hME⟩, hgE⟩
              have HME := Lib.hid hME
              have HRE := Lib.hid (HR.out.kept hgE N21.out)
              have i4 : wE.cell? ⟨gA, 4, none⟩ = some (.int .i64 zn) := (HA.out.kept hgE NA.out).at 4
              have HBE := Lib.hid (below_gb HB.out hgE HB.out.size hgW)
              clear hME hgE a0 a4
              go_wp2_with fail
              refine (rreceive_any g2 s lm am zn _ HRE.out).mono ?_
              rintro e wF ⟨⟨rfl, hRF⟩, hgF⟩
              have HBoF : Hid (Both W wF g g2 s am (recvS s lm zn)) := Lib.hid ⟨HME.out.kept hgF N12.out, hRF, hne, hgW, hgW2, HOK.out.recv zn, below_gb HBE.out hgF HBE.out.size hgW2⟩
              clear hRF hgF HME HRE i4 HBE
              go_wp2
              go_meet
              case rel => exact ⟨g2, _, _, _, rfl, HBoF⟩
            · have b2 : (zo == 2) = false := by simpa using o2
              by_cases o3 : zo = 3
              · subst o3
                clear b1 o1 b2 o2
                obtain ⟨l0, l1⟩ := HOK.out.left
                go_wp2_with fail
                refine (got_any g s am lm _ HM.out (by omega) (by omega)).mono ?_
                rintro e wE ⟨⟨rfl, hME⟩, hgE⟩
                have HME := Lib.hid hME
                have HRE := Lib.hid (HR.out.kept hgE N21.out)
                have HBE := Lib.hid (below_gb HB.out hgE HB.out.size hgW)
                clear hME hgE a0 a4
                go_wp2_with fail
                refine (rgot_any g2 s lm am _ HRE.out (by omega) (by omega)).mono ?_
                rintro e wF ⟨⟨rfl, hRF⟩, hgF⟩
                have HBoF : Hid (Both W wF g g2 (gotS s lm).1 am (gotS s lm).2.1) := Lib.hid ⟨HME.out.kept hgF N12.out, hRF, hne, hgW, hgW2, HOK.out.got, below_gb HBE.out hgF HBE.out.size hgW2⟩
                clear hRF hgF HME HRE HBE
                go_wp2
                go_meet
                case rel => exact ⟨g2, _, _, _, rfl, HBoF⟩
              · have b3 : (zo == 3) = false := by simpa using o3
                by_cases o4 : zo = 4
                · subst o4
                  clear b1 o1 b2 o2 b3 o3
                  go_wp2_with fail
                  refine (reset_any g s am lm _ HM.out).mono ?_
                  rintro e wE ⟨rfl, hME, hgE⟩
                  have HBE := Lib.hid (below_gb HB.out hgE HB.out.size hgW)
                  have HBoF : Hid (Both W (wE.alloc (.cells #[.int .i64 0, .int .i64 0, .int .u16 0] 101)) g wE.heap.size 0 0 0) :=
                    Lib.hid ⟨hME.alloc _, rmach_new wE, Nat.ne_of_lt hME.lt, hgW, HBE.out.size, OkM.start, HBE.out.alloc HBE.out.size _⟩
                  clear hME hgE a0 a4 HBE
                  go_wp2
                  go_meet
                  case rel => exact ⟨_, _, _, _, rfl, HBoF⟩
                · have b4 : (zo == 4) = false := by simpa using o4
                  have HBoF : Hid (Both W wB g g2 s am lm) := Lib.hid ⟨HM.out, HR.out, hne, hgW, hgW2, HOK.out, HB.out⟩
                  clear o1 o2 o3 o4
                  go_wp2
                  go_meet
                  case rel => exact ⟨g2, _, _, _, rfl, HBoF⟩
        case rest =>
          obtain ⟨g3, s', a', l', rfl, HBo3⟩ := hcut
          clear HA HM HR HB HOK HIn2 hgW2 hne hn1 hn2
          obtain ⟨wC, rfl⟩ : ∃ wC : World, wC = wc := ⟨_, rfl⟩
          obtain ⟨hM, hR, e1, e2, e3, hOK, hB⟩ := HBo3.out
          obtain ⟨hr0, c0, c1, c2⟩ := hR.three
          have HM := Lib.hid hM
          have HBo4 : Hid (Both W wC.drew g g3 s' a' l') := Lib.hid ⟨hM.drew, hR.drew, e1, e2, e3, hOK, hB.drew⟩
          clear hM hR e1 e2 e3 hOK hB HBo3
          go_upto_region 33 with fail
          refine wp_region_held_drew (S := (fun w' => w' = wC.drew)) (by kernel_rfl) (rfl) (fun hHeld => ?_)
          refine held_take 0 (v := ?_) rfl (by kernel_rfl) (by kernel_rfl) (by kernel_rfl) (fun _ _ _ h => h) (by rfl) (fun w hS => ?_) (by assumption) ?_
          rotate_left
          · try dsimp only at hS
            go_simp <;> with_reducible rfl
          try simp only [Act.put, List.setIfInBounds_toArray, List.set_cons_zero, List.set_cons_succ]
          refine held_take 2 (v := ?_) rfl (by kernel_rfl) (by kernel_rfl) (by kernel_rfl) (fun _ _ _ h => h) (by rfl) (fun w hS => ?_) (by assumption) ?_
          rotate_left
          · try dsimp only at hS
            go_simp <;> with_reducible rfl
          try simp only [Act.put, List.setIfInBounds_toArray, List.set_cons_zero, List.set_cons_succ]
          refine held_take 3 (v := ?_) rfl (by kernel_rfl) (by kernel_rfl) (by kernel_rfl) (fun _ _ _ h => h) (by rfl) (fun w hS => ?_) (by assumption) ?_
          rotate_left
          · try dsimp only at hS
            go_simp <;> with_reducible rfl
          try simp only [Act.put, List.setIfInBounds_toArray, List.set_cons_zero, List.set_cons_succ]
          refine held_take 4 (v := ?_) rfl (by kernel_rfl) (by kernel_rfl) (by kernel_rfl) (fun _ _ _ h => h) (by rfl) (fun w hS => ?_) (by assumption) ?_
          rotate_left
          · try dsimp only at hS
            go_simp <;> with_reducible rfl
          try simp only [Act.put, List.setIfInBounds_toArray, List.set_cons_zero, List.set_cons_succ]
          refine held_take 5 (v := ?_) rfl (by kernel_rfl) (by kernel_rfl) (by kernel_rfl) (fun _ _ _ h => h) (by rfl) (fun w hS => ?_) (by assumption) ?_
          rotate_left
          · try dsimp only at hS
            go_simp <;> with_reducible rfl
          try simp only [Act.put, List.setIfInBounds_toArray, List.set_cons_zero, List.set_cons_succ]
          refine held_one 1 rfl (by kernel_rfl) (fun K hK => ?_)
          go_simp
          refine (state_any g s' a' l' _ HM.out.drew).mono ?_
          rintro e w' ⟨rfl, rfl⟩
          refine hK.out _ _ (fun w' => w' = wC.drew) (fun _ h => h) rfl (fun hHeld => ?_)
          clear hK K
          try simp only [Act.put, List.setIfInBounds_toArray, List.set_cons_zero, List.set_cons_succ]
          refine held_take 6 (v := ?_) rfl (by kernel_rfl) (by kernel_rfl) (by kernel_rfl) (fun _ _ _ h => h) (by rfl) (fun w hS => ?_) (by assumption) ?_
          rotate_left
          · try dsimp only at hS
            go_simp <;> with_reducible rfl
          try simp only [Act.put, List.setIfInBounds_toArray, List.set_cons_zero, List.set_cons_succ]
          refine held_take 7 (v := ?_) rfl (by kernel_rfl) (by kernel_rfl) (by kernel_rfl) (fun _ _ _ h => h) (by rfl) (fun w hS => ?_) (by assumption) ?_
          rotate_left
          · try dsimp only at hS
            go_simp <;> with_reducible rfl
          try simp only [Act.put, List.setIfInBounds_toArray, List.set_cons_zero, List.set_cons_succ]
          refine held_take 8 (v := ?_) rfl (by kernel_rfl) (by kernel_rfl) (by kernel_rfl) (fun _ _ _ h => h) (by rfl) (fun w hS => ?_) (by assumption) ?_
          rotate_left
          · try dsimp only at hS
            go_simp <;> with_reducible rfl
          try simp only [Act.put, List.setIfInBounds_toArray, List.set_cons_zero, List.set_cons_succ]
          refine held_take 10 (v := ?_) rfl (by kernel_rfl) (by kernel_rfl) (by kernel_rfl) (fun _ _ _ h => h) (by rfl) (fun w hS => ?_) (by assumption) ?_
          rotate_left
          · try dsimp only at hS
            go_simp <;> with_reducible rfl
          try simp only [Act.put, List.setIfInBounds_toArray, List.set_cons_zero, List.set_cons_succ]
          refine held_take 11 (v := ?_) rfl (by kernel_rfl) (by kernel_rfl) (by kernel_rfl) (fun _ _ _ h => h) (by rfl) (fun w hS => ?_) (by assumption) ?_
          rotate_left
          · try dsimp only at hS
            go_simp <;> with_reducible rfl
          try simp only [Act.put, List.setIfInBounds_toArray, List.set_cons_zero, List.set_cons_succ]
          refine held_take 12 (v := ?_) rfl (by kernel_rfl) (by kernel_rfl) (by kernel_rfl) (fun _ _ _ h => h) (by rfl) (fun w hS => ?_) (by assumption) ?_
          rotate_left
          · try dsimp only at hS
            go_simp <;> with_reducible rfl
          try simp only [Act.put, List.setIfInBounds_toArray, List.set_cons_zero, List.set_cons_succ]
          refine held_take 13 (v := ?_) rfl (by kernel_rfl) (by kernel_rfl) (by kernel_rfl) (fun _ _ _ h => h) (by rfl) (fun w hS => ?_) (by assumption) ?_
          rotate_left
          · try dsimp only at hS
            go_simp <;> with_reducible rfl
          try simp only [Act.put, List.setIfInBounds_toArray, List.set_cons_zero, List.set_cons_succ]
          refine held_one 9 rfl (by kernel_rfl) (fun K hK => ?_)
          go_simp
          refine (left_any g s' a' l' _ HM.out.drew).mono ?_
          rintro e w' ⟨rfl, rfl⟩
          refine hK.out _ _ (fun w' => w' = wC.drew) (fun _ h => h) rfl (fun hHeld => ?_)
          clear hK K
          try simp only [Act.put, List.setIfInBounds_toArray, List.set_cons_zero, List.set_cons_succ]
          refine held_take 14 (v := ?_) rfl (by kernel_rfl) (by kernel_rfl) (by kernel_rfl) (fun _ _ _ h => h) (by rfl) (fun w hS => ?_) (by assumption) ?_
          rotate_left
          · try dsimp only at hS
            go_simp <;> with_reducible rfl
          try simp only [Act.put, List.setIfInBounds_toArray, List.set_cons_zero, List.set_cons_succ]
          refine held_take 15 (v := ?_) rfl (by kernel_rfl) (by kernel_rfl) (by kernel_rfl) (fun _ _ _ h => h) (by rfl) (fun w hS => ?_) (by assumption) ?_
          rotate_left
          · try dsimp only at hS
            go_simp <;> with_reducible rfl
          try simp only [Act.put, List.setIfInBounds_toArray, List.set_cons_zero, List.set_cons_succ]
          refine held_take 16 (v := ?_) rfl (by kernel_rfl) (by kernel_rfl) (by kernel_rfl) (fun _ _ _ h => h) (by rfl) (fun w hS => ?_) (by assumption) ?_
          rotate_left
          · try dsimp only at hS
            go_simp <;> with_reducible rfl
          try simp only [Act.put, List.setIfInBounds_toArray, List.set_cons_zero, List.set_cons_succ]
          refine held_take 17 (v := ?_) rfl (by kernel_rfl) (by kernel_rfl) (by kernel_rfl) (fun _ _ _ h => h) (by rfl) (fun w hS => ?_) (by assumption) ?_
          rotate_left
          · try dsimp only at hS
            go_simp <;> with_reducible rfl
          try simp only [Act.put, List.setIfInBounds_toArray, List.set_cons_zero, List.set_cons_succ]
          refine held_take 19 (v := ?_) rfl (by kernel_rfl) (by kernel_rfl) (by kernel_rfl) (fun _ _ _ h => h) (by rfl) (fun w hS => ?_) (by assumption) ?_
          rotate_left
          · try dsimp only at hS
            go_simp <;> with_reducible rfl
          try simp only [Act.put, List.setIfInBounds_toArray, List.set_cons_zero, List.set_cons_succ]
          refine held_take 20 (v := ?_) rfl (by kernel_rfl) (by kernel_rfl) (by kernel_rfl) (fun _ _ _ h => h) (by rfl) (fun w hS => ?_) (by assumption) ?_
          rotate_left
          · try dsimp only at hS
            go_simp <;> with_reducible rfl
          try simp only [Act.put, List.setIfInBounds_toArray, List.set_cons_zero, List.set_cons_succ]
          refine held_take 21 (v := ?_) rfl (by kernel_rfl) (by kernel_rfl) (by kernel_rfl) (fun _ _ _ h => h) (by rfl) (fun w hS => ?_) (by assumption) ?_
          rotate_left
          · try dsimp only at hS
            go_simp <;> with_reducible rfl
          try simp only [Act.put, List.setIfInBounds_toArray, List.set_cons_zero, List.set_cons_succ]
          refine held_take 22 (v := ?_) rfl (by kernel_rfl) (by kernel_rfl) (by kernel_rfl) (fun _ _ _ h => h) (by rfl) (fun w hS => ?_) (by assumption) ?_
          rotate_left
          · try dsimp only at hS
            go_simp <;> with_reducible rfl
          try simp only [Act.put, List.setIfInBounds_toArray, List.set_cons_zero, List.set_cons_succ]
          refine held_one 18 rfl (by kernel_rfl) (fun K hK => ?_)
          go_simp
          refine (addr_any g s' a' l' _ HM.out.drew).mono ?_
          rintro e w' ⟨rfl, rfl⟩
          refine hK.out _ _ (fun w' => w' = wC.drew) (fun _ h => h) rfl (fun hHeld => ?_)
          clear hK K
          try simp only [Act.put, List.setIfInBounds_toArray, List.set_cons_zero, List.set_cons_succ]
          refine held_take 23 (v := ?_) rfl (by kernel_rfl) (by kernel_rfl) (by kernel_rfl) (fun _ _ _ h => h) (by rfl) (fun w hS => ?_) (by assumption) ?_
          rotate_left
          · try dsimp only at hS
            go_simp <;> with_reducible rfl
          try simp only [Act.put, List.setIfInBounds_toArray, List.set_cons_zero, List.set_cons_succ]
          refine held_take 24 (v := ?_) rfl (by kernel_rfl) (by kernel_rfl) (by kernel_rfl) (fun _ _ _ h => h) (by rfl) (fun w hS => ?_) (by assumption) ?_
          rotate_left
          · try dsimp only at hS
            go_simp <;> with_reducible rfl
          try simp only [Act.put, List.setIfInBounds_toArray, List.set_cons_zero, List.set_cons_succ]
          refine held_done (by kernel_rfl) ?_
          clear hHeld c0 c1 c2
          go_wp2
          go_roundw
          case rel => exact ⟨k + 1, g3, s', a', l', by omega, by go_num, rfl, HBo4⟩
          case measure => simp [intOf]; omega
    · obtain rfl : k = len := by omega
      go_wp2
      go_ret
      exact ⟨rfl, HBo.out.2.2.2.2.2.2⟩

theorem plays_any (a : Option Addr) (len cap : Nat) (l : List PAct) (W : World) (hm : len ≤ 9223372036854775807) (hl : Rws 5 PAct.cells W a len l) (hwf : ∀ x ∈ l, x.wf) :
    Calls Try.prog 10 #[.slice a len cap] W fun e w' => e = .returned (.bool true) ∧ Below W.heap.size W w' := by
  by_cases h : len ≤ 400
  · exact plays_walk a len cap l W h hl hwf
  · go_enter Try.func10, Try.ntmps10
    go_wp2_with fail
    refine (pknown_any _).mono ?_
    rintro e w1 ⟨rfl, hb1⟩
    go_wp2_with fail
    go_ret
    exact ⟨rfl, hb1⟩

end Go.Proofs.Ytjjeopanffcbiaa
