/- nand: Program: the walk. -/
import Derived.Test.YtbbhniohliklhaaNandH
namespace Go.Proofs.Ytbbhniohliklhaa
open Go Go.RowKit
set_option linter.unusedVariables false

theorem nstep_yes {M : NMem} {S : Zone} {g : Nat} {F : NF} {ex : Nat → Nat → Bool} (w : World) (h : FlashX M S w g F ex) (h0 : 0 ≤ F.armed) (h1 : F.armed ≤ 9223372036854775807) (ha : ¬ F.armed = 1) :
    Calls Try.prog 32 #[.pointer (some ⟨g, 0, none⟩)] w fun e w' => e = .returned (.bool true) ∧ FlashX M S w' g F.tick ex ∧ w.grownBy w' (some g) := by
  have := nstep_any w h h0 h1
  unfold NF.stepOk NF.stepF at this
  rwa [if_neg ha, show (!F.armed == 1) = true by simpa using ha] at this
theorem nstep_cut {M : NMem} {S : Zone} {g : Nat} {F : NF} {ex : Nat → Nat → Bool} (w : World) (h : FlashX M S w g F ex) (ha : F.armed = 1) :
    Calls Try.prog 32 #[.pointer (some ⟨g, 0, none⟩)] w fun e w' => e = .returned (.bool false) ∧ FlashX M S w' g F.cut ex ∧ w.grownBy w' (some g) := by
  have := nstep_any w h (by omega) (by omega)
  unfold NF.stepOk NF.stepF at this
  rwa [if_pos ha, show (!F.armed == 1) = false by simp [ha]] at this

theorem own_tail {w : World} {base : Nat} {e : TypeId} {v : Value} {n : Nat} {l : List Nat} (h : w.ownsRow base e 1 v n (u8s l)) (hn : 0 < n) :
    ∃ g cap tail, v = .slice (some ⟨g, 0, none⟩) n cap ∧ HasB w g (u8s l ++ tail).toArray e ∧ n + tail.length = cap ∧ n ≤ cap ∧ cap ≤ maxLen ∧ base ≤ g := by
  rcases h.2 with ⟨_, q⟩ | ⟨g, cap, cur, rfl, h1, h2, h3, h4, h5, h6⟩
  · omega
  · refine ⟨g, cap, cur.toList.drop n, rfl, ?_, ?_, h3, h4, h1⟩
    · rw [Nat.mul_one] at h6
      rw [← h6, List.take_append_drop]
      exact h2
    · have : cur.toList.length = cap := by simpa using h5
      rw [List.length_drop]; omega
theorem SameOn.belowB {S : Zone} {a b : World} {B : Nat} (h : Below B a b) (hS : ∀ k, S k → k < B) : SameOn S a b := ⟨h.size, fun k hk _ => h.block k (hS k hk)⟩
theorem Fr.belowB {S : Zone} {a b c : World} {B : Nat} (h : Fr S a b) (k : Below B b c) (hB : a.heap.size ≤ B) : Fr S a c :=
  ⟨k.os.trans h.os, k.tape.trans h.tape, k.output.trans h.output, Nat.le_trans h.size k.size, fun i hi hn => (k.block i (by omega)).trans (h.block i hi hn)⟩
theorem ProgI.put {S : Zone} {w : World} {g gl : Nat} {pg : Nat → Nat} {vs : Nat → Nat → Value} {F : NF} {n p k : Nat} {x : NB} {raw old : List Nat} (h : FlashX ⟨gl, pg, vs⟩ S w g ((F.progK n p x raw old k).tick) (exK n p k)) (hx : F.bl[n]? = some x) (hp : p < F.np) (v : Value) :
    FlashX ⟨gl, pg, fun i j => if i = n ∧ j = p then v else vs i j⟩ S ((w.setCell ⟨pg n, p, none⟩ v).setCell ⟨gl, 5 * n + 1, none⟩ (.int .i64 ((p : Int) + 1))) g (F.progK n p x raw old (k + 1)) (exK n p (k + 1)) := by
  have hk : (F.progK n p x raw old k).tick.bl[n]? = some (x.progK p raw old k) := F.progK_at hx p raw old k
  have hn := (List.getElem?_eq_some_iff.1 hk).1
  have h1 := h.setPg n p (x.progK p raw old k) hk (by rw [show (F.progK n p x raw old k).tick.np = (F.progK n p x raw old k).np by rfl, (F.progK_ch n p x raw old k).2.1]; exact hp) v (chunkTo raw old (k + 1))
  rw [exK_next] at h1
  have h2 := h1.setBlk n { (x.progK p raw old k) with pages := (x.progK p raw old k).pages.set p (chunkTo raw old (k + 1)) } ((x.progK p raw old k).prog p (chunkTo raw old (k + 1))) (by simp [hn]) 1 (by omega) (by omega) (.int .i64 ((p : Int) + 1)) rfl (fun j h1 h5 => by
    match j, h1, h5 with
    | 1, _, _ => rfl
    | 2, _, _ => rfl
    | 3, _, _ => rfl
    | 4, _, _ => rfl)
  rw [← NF.progK_next]
  have e : ({ ({ (F.progK n p x raw old k).tick with bl := (F.progK n p x raw old k).tick.bl.set n { (x.progK p raw old k) with pages := (x.progK p raw old k).pages.set p (chunkTo raw old (k + 1)) } } : NF) with bl := ((F.progK n p x raw old k).tick.bl.set n { (x.progK p raw old k) with pages := (x.progK p raw old k).pages.set p (chunkTo raw old (k + 1)) }).set n ((x.progK p raw old k).prog p (chunkTo raw old (k + 1))) } : NF) = ((F.progK n p x raw old k).tick).setB n ((x.progK p raw old k).prog p (chunkTo raw old (k + 1))) := by
    simp [NF.setB]
  rw [← e]
  exact h2
theorem FlashX.done {M : NMem} {S : Zone} {w : World} {g : Nat} {F : NF} {ex : Nat → Nat → Bool} (h : FlashX M S w g F ex) : FlashX M S (w.setCell ⟨g, 6, none⟩ (.int .i64 (IntKind.i64.wrap (F.pr + 1)))) g F.done ex := h.setOwn 6 _ (by simp [NF.cells, NF.done]) rfl rfl

set_option maxRecDepth 100000 in
set_option maxHeartbeats 4000000 in
theorem nprog_go {M : NMem} {S : Zone} {g : Nat} {F : NF} (n p : Nat) (x : NB) (l : List Nat) (rb ro N rc : Nat) (raw : List Nat) (w : World) (h : FlashX M S w g F noEx) (hl : S.lives w) (hx : F.bl[n]? = some x) (hp : x.pages[p]? = some l) (hok : F.Ok) (hhas : F.has x p = true) (hN : N = F.ch * 73)
    (hr : Bytes w (some ⟨rb, ro, none⟩) N raw) (ho : ¬ S rb) (hrc : N ≤ rc) (hm : F.mayE x.failed true = 0) (hh : x.half = false) (hn : x.next = (p : Int)) :
    Calls Try.prog 11 #[.pointer (some ⟨g, 0, none⟩), .int .i64 (n : Int), .int .i64 (p : Int), .slice (some ⟨rb, ro, none⟩) N rc] w fun e w' => e = .returned (.int .i64 (F.progGo n p x raw (F.raw l) F.ch 0).1) ∧ FlashAt (S.grow w w') w' g (F.progGo n p x raw (F.raw l) F.ch 0).2 ∧ Fr S w w' := by
  obtain ⟨POST, hPOST⟩ : ∃ Q : Ending → World → Prop, Q = fun e w' => e = .returned (.int .i64 (F.progGo n p x raw (F.raw l) F.ch 0).1) ∧ FlashAt (S.grow w w') w' g (F.progGo n p x raw (F.raw l) F.ch 0).2 ∧ Fr S w w' := ⟨_, rfl⟩
  rw [← hPOST]
  have HPOST := Lib.hid hPOST
  clear hPOST
  obtain ⟨-, -, -, -, -, c5, -⟩ := h.gcells
  obtain ⟨b0, b1, b2, -⟩ := h.bcells hx
  rw [hh] at b2
  rw [hn] at b1
  have HBk := Lib.hid (fun w (h : FlashX M S w g F noEx) => nblk_in n w h (lt_of_get hx) hok.nb)
  have HPg := Lib.hid (fun w (h : FlashX M S w g F noEx) => by have := npage_any n x p w h hx hok.np; rwa [hhas] at this)
  have HMy := Lib.hid (fun w (h : FlashX M S w g F noEx) => by have := nmay_any n x true w h hx; rwa [hm] at this)
  have HRw := Lib.hid (nraw_any n p x l w h hx hp rfl (hok.pgAt hx hp) hok.c1 hok.c8)
  have HH := Lib.hid h
  have HL := Lib.hid hl
  have HX := Lib.hid hx
  have HOk := Lib.hid hok
  have HR := Lib.hid hr
  have HO := Lib.hid ho
  have HN := Lib.hid hN
  have HHp := Lib.hid hp
  have i1 : (F.ch : Int) * 73 = (N : Int) := by omega
  have hc1 : 1 ≤ F.ch := hok.c1
  have hc8 : F.ch ≤ 8 := hok.c8
  have hN1 : 73 ≤ N := by omega
  have hN2 : N ≤ 584 := by omega
  obtain ⟨ch, hch⟩ : ∃ ch, ch = F.ch := ⟨_, rfl⟩
  rw [← hch] at i1 c5 hc1 hc8
  have HCh := Lib.hid hch
  have HN2 : Hid (N = ch * 73) := Lib.hid (by rw [hch]; exact hN)
  clear h hl hx hok hhas hr ho hm hh hn hN hp hch
  go_enter Try.func11, Try.ntmps11
  go_wp2_with fail
  refine (HBk.out _ HH.out).mono ?_
  rintro e w1 ⟨rfl, rfl⟩
  go_wp2_with fail
  refine (HPg.out _ HH.out).mono ?_
  rintro e w1 ⟨rfl, rfl⟩
  go_wp2_with fail
  refine (HMy.out _ HH.out).mono ?_
  rintro e w1 ⟨rfl, rfl⟩
  obtain ⟨q, hq⟩ : ∃ q, q = 5 * n := ⟨_, rfl⟩
  have HQ := Lib.hid hq
  rw [← hq] at b0 b1 b2 HRw ⊢
  clear hq
  go_wp2_with fail
  refine HRw.out.mono ?_
  rintro e w1 ⟨⟨v, rfl, hown⟩, hb1⟩
  rw [← HCh.out, ← HN2.out] at hown
  obtain ⟨gb, cap, tail, rfl, hrow, ht1, ht2, ht3, ht4⟩ := own_tail hown (by omega)
  obtain ⟨old, hold⟩ : ∃ old, old = F.raw l := ⟨_, rfl⟩
  rw [← hold] at hrow
  have HOld := Lib.hid hold
  have HG : Hid (ProgG S w x p raw old gb N cap tail) := Lib.hid ⟨HL.out, ht4, by omega, by omega, HR.out.1, by rw [HOld.out, NF.raw_len (HOk.out.pgAt HX.out HHp.out), HN.out], HR.out.2.1, by rw [HOld.out]; exact NF.raw_lt (HOk.out.pgAt HX.out HHp.out), ht2, ht3, ht1, lt_of_get HHp.out⟩
  obtain ⟨gl, hgl⟩ : ∃ gl, gl = M.gl := ⟨_, rfl⟩
  obtain ⟨pg, hpg⟩ : ∃ pg, pg = M.pg := ⟨_, rfl⟩
  have HI : Hid (ProgI S w g gl pg F n p x raw old gb N cap tail 0 w1) := Lib.hid (by
    refine ⟨⟨M.vs, ?_, fun h0 => by omega⟩, by rw [chunkTo_zero]; exact hrow, Fr.below hb1⟩
    rw [exK_zero, hgl, hpg]
    exact HH.out.below hb1)
  rw [← hgl]
  have HE : Hid (F.progGo n p x raw old ch 0 = F.progGo n p x raw old (ch - 0) 0) := Lib.hid rfl
  have HB5 : w1.cell? ⟨g, 5, none⟩ = some (.int .i64 (ch : Int)) := (hb1.cell (p := ⟨g, 5, none⟩) (block_lt_of_cell c5)).trans c5
  clear hown hrow hold ht1 ht3 hgl hpg b0 b1 b2 c5 hb1 HRw HMy HPg HBk
  go_wp2_with fail
  clear HB5
  go_loopw [56] (fun i wr => ∃ k : Nat, k ≤ ch ∧ i = .int .i64 (k : Int) ∧ Hid (ProgI S w g gl pg F n p x raw old gb N cap tail k wr) ∧ Hid (F.progGo n p x raw old ch 0 = F.progGo n p x raw old (ch - k) k)) (fun i _ => ch - (intOf i).toNat)
  case atStart => exact ⟨0, Nat.zero_le _, rfl, HI, HE⟩
  case round =>
    clear HI HE
    obtain ⟨k, hk, rfl, HI, HE⟩ := hrel
    obtain ⟨wo, rfl⟩ : ∃ wo : World, wo = wr := ⟨_, rfl⟩
    obtain ⟨⟨vs, hfl, hvs⟩, hrow, hfr⟩ := HI.out
    have hpn : (F.progK n p x raw old k).armed = (F.ticks k).armed := NF.progK_armed F n p x raw old k
    have hta := NF.ticks_armed HOk.out.a0 HOk.out.a1 k
    have HFl := Lib.hid hfl
    have HVs := Lib.hid hvs
    have HRow := Lib.hid hrow
    have HFr := Lib.hid hfr
    clear hfl hvs hrow hfr HI
    by_cases hlt : k < ch
    · have hlt' : (k : Int) < (ch : Int) := by omega
      by_cases ha : (F.ticks k).armed = 1
      · have HA := Lib.hid (hpn.trans ha)
        have HE2 : Hid (F.progGo n p x raw old ch 0 = (4, (F.progK n p x raw old k).cut)) := Lib.hid (by
          rw [HE.out, show ch - k = (ch - k - 1) + 1 by omega, NF.progGo, if_pos ha])
        clear hpn hta ha HE
        go_wp2_with fail
        refine (nstep_cut _ HFl.out HA.out).mono ?_
        rintro e w2 ⟨rfl, hf2, hg2⟩
        have HF2 := Lib.hid hf2
        have HG2 := Lib.hid hg2
        clear hf2 hg2
        go_wp2_with fail
        rw [HPOST.out]
        have hfr2 : Fr S w w2 := HFr.out.trans' (Fr.grown HG2.out HFl.out.zone.1)
        rw [← HOld.out, ← HCh.out, HE2.out]
        refine ⟨rfl, ProgI.close HG.out (by have := HN.out; have := HCh.out; omega) HX.out HF2.out rfl HVs.out ?_ hfr2, hfr2⟩
        exact HRow.out.kept HG2.out (fun e => hasB_ne HRow.out HFl.out.own (by decide) (Option.some.inj e))
      · have HA := Lib.hid (show ¬ (F.progK n p x raw old k).armed = 1 by rw [hpn]; exact ha)
        have HA2 := Lib.hid (show 0 ≤ (F.progK n p x raw old k).armed ∧ (F.progK n p x raw old k).armed ≤ 9223372036854775807 by rw [hpn]; exact hta)
        have HE2 : Hid (F.progGo n p x raw old ch 0 = F.progGo n p x raw old (ch - (k + 1)) (k + 1)) := Lib.hid (by
          rw [HE.out, show ch - k = (ch - (k + 1)) + 1 by omega, NF.progGo, if_neg ha])
        clear hpn hta ha HE
        go_wp2_with fail
        refine (nstep_yes _ HFl.out HA2.out.1 HA2.out.2 HA.out).mono ?_
        rintro e w2 ⟨rfl, hf2, hg2⟩
        have hrow2 := HRow.out.kept hg2 (fun e => hasB_ne HRow.out HFl.out.own (by decide) (Option.some.inj e))
        have hfr2 : Fr S w w2 := HFr.out.trans' (Fr.grown hg2 HFl.out.zone.1)
        have hsrc := HR.out.fr hfr2 (fun ad e => by cases e; exact HO.out)
        have HF2 := Lib.hid hf2
        have HRd : Hid (HasB w2.drew gb (u8s (chunkTo raw old k) ++ tail).toArray 5) := Lib.hid hrow2
        have HFr2 := Lib.hid hfr2
        clear hf2 hg2 hrow2 hfr2 HFl HRow HFr HA HA2
        obtain ⟨kk, hkk⟩ : ∃ kk, kk = k * 73 := ⟨_, rfl⟩
        obtain ⟨k1, hk1⟩ : ∃ k1, k1 = k + 1 := ⟨_, rfl⟩
        obtain ⟨k2, hk2⟩ : ∃ k2, k2 = kk + 73 := ⟨_, rfl⟩
        have i2 : IntKind.i64.wrap ((k : Int) * 73) = (kk : Int) := by rw [wr64' _ (by omega) (by omega)]; omega
        have i3 : IntKind.i64.wrap ((k : Int) + 1) = (k1 : Int) := by rw [wr64' _ (by omega) (by omega)]; omega
        have i4 : IntKind.i64.wrap ((k1 : Int) * 73) = (k2 : Int) := by rw [wr64' _ (by omega) (by omega)]; omega
        have hk73 : (k + 1) * 73 ≤ N := by have := HN2.out; omega
        have j1 : (0 : Int) ≤ (kk : Int) ∧ (kk : Int) ≤ (N : Int) := by omega
        have j2 : (0 : Int) ≤ (kk : Int) ∧ (kk : Int) ≤ (k2 : Int) ∧ (k2 : Int) ≤ (rc : Int) := by omega
        have j3 : ¬ (kk = cap) := by omega
        have j4 : ¬ (rc = kk) := by omega
        have j5 : ¬ (cap = kk) := by omega
        have hsp := chunkTo_splice (k := k) tail HG.out.rl HG.out.ol hk73
        rw [← hkk] at hsp
        have HSp := Lib.hid hsp
        have hcl : (u8s ((raw.drop kk).take 73)).length = 73 := by rw [u8s_len]; simp [HG.out.rl]; omega
        have HCn : Hid ((u8s ((raw.drop kk).take 73)).length = Nat.min (k2 - kk) (N - kk)) := Lib.hid (by rw [hcl]; show 73 = min (k2 - kk) (N - kk); omega)
        have HFit : Hid (kk + (u8s ((raw.drop kk).take 73)).length ≤ (u8s (chunkTo raw old k) ++ tail).length) := Lib.hid (by
          rw [hcl, List.length_append, u8s_len, chunkTo_len HG.out.rl HG.out.ol (by omega)]; omega)
        have HSrc : Hid (∀ (j : Nat) (v : Value), (u8s ((raw.drop kk).take 73))[j]? = some v → w2.drew.cell? ((⟨rb, ro + kk, none⟩ : Addr).add j) = some v) := Lib.hid (fun j v hj => by
          have hj73 : j < 73 := by have := (List.getElem?_eq_some_iff.1 hj).1; rwa [hcl] at this
          obtain ⟨b', off', he, _, hc⟩ := hsrc.2.2 (by omega)
          cases he
          have := hc (kk + j) (by omega)
          rw [Go.WideShapes.add_plain, show ro + kk + j = ro + (kk + j) by omega]
          refine (show w2.drew.cell? ⟨rb, ro + (kk + j), none⟩ = _ from this).trans ?_
          rw [← hj]
          have hlen : kk + j < raw.length := by rw [HG.out.rl]; omega
          simp [u8s, List.getElem?_take, hj73, hlen, List.getD])
        have HK1 := Lib.hid hk1
        have HK2 := Lib.hid (show kk = k * 73 ∧ k2 = kk + 73 from ⟨hkk, hk2⟩)
        clear hkk hk1 hk2 hsp hcl hsrc
        go_wp2_with fail
        refine wp_region_held_drew (S := (fun _ => True)) (by kernel_rfl) (trivial) (fun hHeld => ?_)
        refine held_take 0 (v := ?_) rfl (by kernel_rfl) (by kernel_rfl) (by kernel_rfl) (fun _ _ _ h => h) (by rfl) (fun w hS => ?_) (by assumption) ?_
        rotate_left
        · try dsimp only at hS
          go_simp <;> with_reducible rfl
        try simp only [Act.put, List.setIfInBounds_toArray, List.set_cons_zero, List.set_cons_succ]
        refine held_take 1 (v := ?_) rfl (by kernel_rfl) (by kernel_rfl) (by kernel_rfl) (fun _ _ _ h => h) (by rfl) (fun w hS => ?_) (by assumption) ?_
        rotate_left
        · try dsimp only at hS
          go_simp <;> with_reducible rfl
        try simp only [Act.put, List.setIfInBounds_toArray, List.set_cons_zero, List.set_cons_succ]
        refine held_take 2 (v := ?_) rfl (by kernel_rfl) (by kernel_rfl) (by kernel_rfl) (fun _ _ _ h => h) (by rfl) (fun w hS => ?_) (by assumption) ?_
        rotate_left
        · try dsimp only at hS
          go_simp <;> with_reducible rfl
        try simp only [Act.put, List.setIfInBounds_toArray, List.set_cons_zero, List.set_cons_succ]
        refine held_take 3 (v := ?_) rfl (by kernel_rfl) (by kernel_rfl) (by kernel_rfl) (fun _ _ _ h => h) (by rfl) (fun w hS => ?_) (by assumption) ?_
        rotate_left
        · try dsimp only at hS
          go_simp <;> with_reducible rfl
        try simp only [Act.put, List.setIfInBounds_toArray, List.set_cons_zero, List.set_cons_succ]
        refine held_take 4 (v := ?_) rfl (by kernel_rfl) (by kernel_rfl) (by kernel_rfl) (fun _ _ _ h => h) (by rfl) (fun w hS => ?_) (by assumption) ?_
        rotate_left
        · try dsimp only at hS
          go_simp <;> with_reducible rfl
        try simp only [Act.put, List.setIfInBounds_toArray, List.set_cons_zero, List.set_cons_succ]
        refine held_take 5 (v := ?_) rfl (by kernel_rfl) (by kernel_rfl) (by kernel_rfl) (fun _ _ _ h => h) (by rfl) (fun w hS => ?_) (by assumption) ?_
        rotate_left
        · try dsimp only at hS
          go_simp <;> with_reducible rfl
        try simp only [Act.put, List.setIfInBounds_toArray, List.set_cons_zero, List.set_cons_succ]
        refine held_take 6 (v := ?_) rfl (by kernel_rfl) (by kernel_rfl) (by kernel_rfl) (fun _ _ _ h => h) (by rfl) (fun w hS => ?_) (by assumption) ?_
        rotate_left
        · try dsimp only at hS
          go_simp <;> with_reducible rfl
        try simp only [Act.put, List.setIfInBounds_toArray, List.set_cons_zero, List.set_cons_succ]
        refine held_take 7 (v := ?_) rfl (by kernel_rfl) (by kernel_rfl) (by kernel_rfl) (fun _ _ _ h => h) (by rfl) (fun w hS => ?_) (by assumption) ?_
        rotate_left
        · try dsimp only at hS
          go_simp <;> with_reducible rfl
        try simp only [Act.put, List.setIfInBounds_toArray, List.set_cons_zero, List.set_cons_succ]
        refine held_take 8 (v := ?_) rfl (by kernel_rfl) (by kernel_rfl) (by kernel_rfl) (fun _ _ _ h => h) (by rfl) (fun w hS => ?_) (by assumption) ?_
        rotate_left
        · try dsimp only at hS
          go_simp <;> with_reducible rfl
        try simp only [Act.put, List.setIfInBounds_toArray, List.set_cons_zero, List.set_cons_succ]
        refine held_take 9 (v := ?_) rfl (by kernel_rfl) (by kernel_rfl) (by kernel_rfl) (fun _ _ _ h => h) (by rfl) (fun w hS => ?_) (by assumption) ?_
        rotate_left
        · try dsimp only at hS
          go_simp <;> with_reducible rfl
        try simp only [Act.put, List.setIfInBounds_toArray, List.set_cons_zero, List.set_cons_succ]
        refine held_take 10 (v := ?_) rfl (by kernel_rfl) (by kernel_rfl) (by kernel_rfl) (fun _ _ _ h => h) (by rfl) (fun w hS => ?_) (by assumption) ?_
        rotate_left
        · try dsimp only at hS
          go_simp <;> with_reducible rfl
        try simp only [Act.put, List.setIfInBounds_toArray, List.set_cons_zero, List.set_cons_succ]
        refine held_one 11 rfl (by kernel_rfl) (fun K hK => ?_)
        refine step_copy_splice rfl (.tmp 67) (.tmp 74) 29 29 rfl 5 Try.underlying29 u8size (some ⟨gb, kk, none⟩) (some ⟨rb, ro + kk, none⟩) (N - kk) (cap - kk) (k2 - kk) (rc - kk) rfl rfl gb kk (u8s (chunkTo raw old k) ++ tail) 5 HRd.out (u8s ((raw.drop kk).take 73)) HCn.out (fun _ => ⟨rfl, _, rfl, HSrc.out⟩) HFit.out (u8s_one _) gb w2.drew (Below.refl _ _) (Nat.le_refl _) ?_
        intro w4 hg4 hb4
        refine hK.out _ _ (fun _ => True) (fun _ _ => trivial) trivial (fun hHeld => ?_)
        clear hK K
        try simp only [Act.put, List.setIfInBounds_toArray, List.set_cons_zero, List.set_cons_succ]
        refine held_done (by kernel_rfl) ?_
        have hsm : SameOn S w2 w4 := SameOn.belowB (a := w2.drew) hb4 (fun j hj => Nat.lt_of_lt_of_le (HL.out j hj) ht4)
        have hfl4 := HF2.out.same hsm
        have hrow4 : HasB w4 gb (u8s (chunkTo raw old (k + 1)) ++ tail).toArray 5 := by rw [← HSp.out]; exact hg4.out
        have hfr4 : Fr S w w4 := HFr2.out.drew.belowB hb4 ht4
        have hkat : (F.progK n p x raw old k).tick.bl[n]? = some (x.progK p raw old k) := F.progK_at HX.out p raw old k
        obtain ⟨b0, b1, -⟩ := hfl4.bcells hkat
        have hplen : p < (x.progK p raw old k).pages.length := by rw [NB.progK_len]; exact lt_of_get HHp.out
        have p0 := hfl4.pcell hkat (List.getElem?_eq_getElem hplen)
        have f0 := hfl4.pfree hkat p
        have f1 := hfl4.bfree (5 * n + 1)
        have hpn : p < F.np := by
          have := (HH.out.pgs n x HX.out).1
          have := lt_of_get HHp.out
          omega
        have hpn2 := HOk.out.np
        obtain ⟨np, hnp⟩ : ∃ np, np = (F.progK n p x raw old k).tick.np := ⟨_, rfl⟩
        rw [← hnp] at b0
        have hpn3 : np = F.np := hnp.trans (F.progK_ch n p x raw old k).2.1
        rw [← hpn3] at hpn hpn2
        have t1 : (0 : Int) ≤ (p : Int) ∧ (p : Int) < (np : Int) := by omega
        have t2 : (p : Int) ≤ 1000 := by omega
        have hput := ProgI.put hfl4 HX.out (by rw [← hpn3]; exact hpn) (.slice (some ⟨gb, 0, none⟩) N cap)
        obtain ⟨_, D, hD, -⟩ := hfl4.pgs n _ hkat
        obtain ⟨C, hC, -⟩ := hfl4.blk
        have hrow6 : HasB ((w4.setCell ⟨pg n, p, none⟩ (.slice (some ⟨gb, 0, none⟩) N cap)).setCell ⟨gl, 5 * n + 1, none⟩ (.int .i64 ((p : Int) + 1))) gb (u8s (chunkTo raw old (k + 1)) ++ tail).toArray 5 := (hrow4.set_other (p := ⟨pg n, p, none⟩) (hasB_ne hrow4 hD (by decide)) _).set_other (p := ⟨gl, 5 * n + 1, none⟩) (hasB_ne hrow4 hC (by decide)) _
        have hz := hfl4.zone
        have hne : ¬ (pg n = gl) := hasB_ne hD hC (by decide)
        have hne2 : ¬ (gl = pg n) := fun e => hne e.symm
        have hfr6 : Fr S w ((w4.setCell ⟨pg n, p, none⟩ (.slice (some ⟨gb, 0, none⟩) N cap)).setCell ⟨gl, 5 * n + 1, none⟩ (.int .i64 ((p : Int) + 1))) := (hfr4.trans' (Fr.grown (gb_set (gb_refl _ _) _ _) (hz.2.2 n (lt_of_get hkat)))).trans' (Fr.grown (gb_set (gb_refl _ _) _ _) hz.2.1)
        rw [← HQ.out] at b0 b1 f1 hput hrow6 hfr6
        have HP6 : Hid (ProgI S w g gl pg F n p x raw old gb N cap tail (k + 1) ((w4.setCell ⟨pg n, p, none⟩ (.slice (some ⟨gb, 0, none⟩) N cap)).setCell ⟨gl, q + 1, none⟩ (.int .i64 ((p : Int) + 1)))) := Lib.hid ⟨⟨_, hput, fun _ => by simp⟩, hrow6, hfr6⟩
        clear hsm hfl4 hrow4 hfr4 hkat hplen hpn hpn2 hnp hpn3 hput hD hC hz hrow6 hfr6 hg4 hb4 HCn HFit HSrc HSp
        dsimp only at b0 b1 p0 f0 f1
        obtain ⟨pgn, hpgn⟩ : ∃ pgn, pgn = pg n := ⟨_, rfl⟩
        rw [← hpgn] at b0 p0 f0 HP6 hne hne2
        clear hpgn
        go_wp2_with fail
        go_roundw
        case rel => exact ⟨k + 1, by omega, by rw [HK1.out], HP6, HE2⟩
        case measure => simp [intOf]; have := HK1.out; omega
    · obtain rfl : k = ch := by omega
      clear hpn hta
      have HE2 : Hid (F.progGo n p x raw old k 0 = (0, (F.progK n p x raw old k).done)) := Lib.hid (by
        rw [HE.out, show k - k = 0 by omega, NF.progGo])
      obtain ⟨-, -, -, -, -, -, c6, -⟩ := HFl.out.gcells
      have f6 := HFl.out.gfree 6
      have HD := Lib.hid HFl.out.done
      have HGr : Hid (wo.grownBy (wo.setCell ⟨g, 6, none⟩ (.int .i64 (IntKind.i64.wrap ((F.progK n p x raw old k).pr + 1)))) (some g)) := Lib.hid (gb_set (gb_refl _ _) _ _)
      have HEnd : Hid (FlashAt (S.grow w (wo.setCell ⟨g, 6, none⟩ (.int .i64 (IntKind.i64.wrap ((F.progK n p x raw old k).pr + 1))))) (wo.setCell ⟨g, 6, none⟩ (.int .i64 (IntKind.i64.wrap ((F.progK n p x raw old k).pr + 1)))) g (F.progK n p x raw old k).done ∧ Fr S w (wo.setCell ⟨g, 6, none⟩ (.int .i64 (IntKind.i64.wrap ((F.progK n p x raw old k).pr + 1))))) := Lib.hid (by
        have hfr2 : Fr S w (wo.setCell ⟨g, 6, none⟩ (.int .i64 (IntKind.i64.wrap ((F.progK n p x raw old k).pr + 1)))) := HFr.out.trans' (Fr.grown HGr.out HFl.out.zone.1)
        refine ⟨ProgI.close HG.out (by have := HN2.out; omega) HX.out HD.out rfl HVs.out ?_ hfr2, hfr2⟩
        exact HRow.out.kept HGr.out (fun e => hasB_ne HRow.out HFl.out.own (by decide) (Option.some.inj e)))
      generalize (F.progK n p x raw old k).pr = pr at c6 HEnd
      clear HD HGr HFl HRow HFr HVs HE
      go_wp2_with fail
      refine (nadd_any g 6 pr _ c6 f6).mono ?_
      rintro e w2 ⟨rfl, rfl⟩
      clear c6 f6
      go_wp2_with fail
      rw [HPOST.out, ← HOld.out, ← HCh.out, HE2.out]
      exact ⟨rfl, HEnd.out⟩

/-- What there is against a program. -/
def NF.progE (F : NF) (x : NB) (p : Int) (len : Nat) : Int := if F.mayE x.failed (F.has x p && len == F.ch * 73) ≠ 0 then F.mayE x.failed (F.has x p && len == F.ch * 73) else if x.half || !(x.next == p) then 6 else 0
set_option maxRecDepth 100000 in
set_option maxHeartbeats 4000000 in
theorem nprog_err {M : NMem} {S : Zone} {g : Nat} {F : NF} (n : Nat) (p : Int) (x : NB) (a : Option Addr) (len cap : Nat) (w : World) (h : FlashX M S w g F noEx) (hx : F.bl[n]? = some x) (hok : F.Ok) (hlen : len ≤ 1000000) (he : F.progE x p len ≠ 0) :
    Calls Try.prog 11 #[.pointer (some ⟨g, 0, none⟩), .int .i64 (n : Int), .int .i64 p, .slice a len cap] w fun e w' => e = .returned (.int .i64 (F.progE x p len)) ∧ w = w' := by
  obtain ⟨-, -, -, -, -, c5, -⟩ := h.gcells
  obtain ⟨-, b1, b2, -⟩ := h.bcells hx
  have HBk := Lib.hid (fun w (h : FlashX M S w g F noEx) => nblk_in n w h (lt_of_get hx) hok.nb)
  have HPg := Lib.hid (fun w (h : FlashX M S w g F noEx) => npage_any n x p w h hx hok.np)
  have HMy := Lib.hid (fun is w (h : FlashX M S w g F noEx) => nmay_any n x is w h hx)
  have HH := Lib.hid h
  have hm0 : F.mayE x.failed false ≠ 0 := by
    unfold NF.mayE
    cases F.off <;> simp
  have hE : F.progE x p len = if F.mayE x.failed (F.has x p && len == F.ch * 73) ≠ 0 then F.mayE x.failed (F.has x p && len == F.ch * 73) else if x.half || !(x.next == p) then 6 else 0 := rfl
  have hc1 : 1 ≤ F.ch := hok.c1
  have hc8 : F.ch ≤ 8 := hok.c8
  obtain ⟨N, hN⟩ : ∃ N, N = F.ch * 73 := ⟨_, rfl⟩
  have i1 : (F.ch : Int) * 73 = (N : Int) := by omega
  have hN2 : N ≤ 584 := by omega
  rw [← hN] at hE
  generalize F.progE x p len = E at hE he ⊢
  generalize F.ch = ch at *
  generalize F.has x p = has at HPg hE
  clear h hx hok hN
  generalize F.mayE x.failed = may at HMy hE hm0
  generalize x.half = hf at b2 hE
  generalize x.next = nx at b1 hE
  cases has with
  | false =>
    simp only [Bool.false_and] at hE
    have HM := Lib.hid (HMy.out false)
    clear HMy
    generalize may false = m at HM hE hm0
    rw [if_pos hm0] at hE
    subst hE
    clear he
    go_enter Try.func11, Try.ntmps11
    go_wp2_with fail
    refine (HBk.out _ HH.out).mono ?_
    rintro e w1 ⟨rfl, rfl⟩
    go_wp2_with fail
    refine (HPg.out _ HH.out).mono ?_
    rintro e w1 ⟨rfl, rfl⟩
    go_wp2_with fail
    refine (HM.out _ HH.out).mono ?_
    rintro e w1 ⟨rfl, rfl⟩
    go_wp2_with fail
    go_ret
    exact ⟨rfl, rfl⟩
  | true =>
    simp only [Bool.true_and] at hE
    by_cases hl : len = N
    · subst hl
      rw [show (len == len) = true by simp] at hE
      have HM := Lib.hid (HMy.out true)
      clear HMy hm0
      generalize may true = m at HM hE
      by_cases hm : m = 0
      · subst hm
        rw [if_neg (by simp)] at hE
        cases hf with
        | true =>
          rw [if_pos (by simp)] at hE
          subst hE
          clear he b1
          go_enter Try.func11, Try.ntmps11
          go_wp2_with fail
          refine (HBk.out _ HH.out).mono ?_
          rintro e w1 ⟨rfl, rfl⟩
          go_wp2_with fail
          refine (HPg.out _ HH.out).mono ?_
          rintro e w1 ⟨rfl, rfl⟩
          go_wp2_with fail
          refine (HM.out _ HH.out).mono ?_
          rintro e w1 ⟨rfl, rfl⟩
          obtain ⟨q, hq⟩ : ∃ q, q = 5 * n := ⟨_, rfl⟩
          rw [← hq] at b2 ⊢
          clear hq
          go_wp2_with fail
          go_ret
          exact ⟨rfl, rfl⟩
        | false =>
          simp only [Bool.false_or] at hE
          by_cases hp : nx = p
          · rw [if_neg (by simp [hp])] at hE
            exact absurd hE he
          · rw [if_pos (by simp [hp])] at hE
            subst hE
            have hp1 : (p == nx) = false := by simpa using fun e => hp e.symm
            have hp2 : (p != nx) = true := by simp [bne, hp1]
            clear he hp
            go_enter Try.func11, Try.ntmps11
            go_wp2_with fail
            refine (HBk.out _ HH.out).mono ?_
            rintro e w1 ⟨rfl, rfl⟩
            go_wp2_with fail
            refine (HPg.out _ HH.out).mono ?_
            rintro e w1 ⟨rfl, rfl⟩
            go_wp2_with fail
            refine (HM.out _ HH.out).mono ?_
            rintro e w1 ⟨rfl, rfl⟩
            obtain ⟨q, hq⟩ : ∃ q, q = 5 * n := ⟨_, rfl⟩
            rw [← hq] at b1 b2 ⊢
            clear hq
            go_wp2_with fail
            go_ret
            exact ⟨rfl, rfl⟩
      · rw [if_pos hm] at hE
        subst hE
        have hm2 : (E == 0) = false := by simpa using hm
        have hm3 : (E != 0) = true := by simp [bne, hm2]
        clear he hm b1 b2
        go_enter Try.func11, Try.ntmps11
        go_wp2_with fail
        refine (HBk.out _ HH.out).mono ?_
        rintro e w1 ⟨rfl, rfl⟩
        go_wp2_with fail
        refine (HPg.out _ HH.out).mono ?_
        rintro e w1 ⟨rfl, rfl⟩
        go_wp2_with fail
        refine (HM.out _ HH.out).mono ?_
        rintro e w1 ⟨rfl, rfl⟩
        go_wp2_with fail
        go_ret
        exact ⟨rfl, rfl⟩
    · have hl1 : (len == N) = false := by simpa using hl
      rw [hl1] at hE
      have HM := Lib.hid (HMy.out false)
      clear HMy
      generalize may false = m at HM hE hm0
      rw [if_pos hm0] at hE
      subst hE
      have hl2 : ((len : Int) == (N : Int)) = false := by simp; omega
      clear he b1 b2
      go_enter Try.func11, Try.ntmps11
      go_wp2_with fail
      refine (HBk.out _ HH.out).mono ?_
      rintro e w1 ⟨rfl, rfl⟩
      go_wp2_with fail
      refine (HPg.out _ HH.out).mono ?_
      rintro e w1 ⟨rfl, rfl⟩
      go_wp2_with fail
      refine (HM.out _ HH.out).mono ?_
      rintro e w1 ⟨rfl, rfl⟩
      go_wp2_with fail
      go_ret
      exact ⟨rfl, rfl⟩
theorem nprog_out {M : NMem} {S : Zone} {g : Nat} {F : NF} (n p : Int) (a : Option Addr) (len cap : Nat) (w : World) (h : FlashX M S w g F noEx) (hn : n < 0 ∨ (F.bl.length : Int) ≤ n) (hok : F.Ok) :
    Calls Try.prog 11 #[.pointer (some ⟨g, 0, none⟩), .int .i64 n, .int .i64 p, .slice a len cap] w fun e w' => e = .returned (.int .i64 (F.mayE false false)) ∧ w = w' := by
  have HBk := Lib.hid (fun w (h : FlashX M S w g F noEx) => nblk_out n w h hn hok.nb)
  have HPg := Lib.hid (fun w (h : FlashX M S w g F noEx) => npage_nil p w h)
  have HM := Lib.hid (fun w (h : FlashX M S w g F noEx) => nmay_nil w h)
  have HH := Lib.hid h
  have hm0 : F.mayE false false ≠ 0 := by
    unfold NF.mayE
    cases F.off <;> simp
  generalize F.mayE false false = m at HM hm0 ⊢
  clear h hn hok
  go_enter Try.func11, Try.ntmps11
  go_wp2_with fail
  refine (HBk.out _ HH.out).mono ?_
  rintro e w1 ⟨rfl, rfl⟩
  go_wp2_with fail
  refine (HPg.out _ HH.out).mono ?_
  rintro e w1 ⟨rfl, rfl⟩
  go_wp2_with fail
  refine (HM.out _ HH.out).mono ?_
  rintro e w1 ⟨rfl, rfl⟩
  go_wp2_with fail
  go_ret
  exact ⟨rfl, rfl⟩
end Go.Proofs.Ytbbhniohliklhaa
