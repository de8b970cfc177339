/- nand: NandPlays: looks. -/
import Derived.Test.YtbbhniohliklhaaNandRM
namespace Go.Proofs.Ytbbhniohliklhaa
open Go Go.RowKit
set_option linter.unusedVariables false

theorem duo_readN {Sn Sr : Zone} {w : World} {g h : Nat} {F F' F2 : NF} {l : List Nat} {E : Int} (d : Duo Sn Sr w g h F F') (n p : Int) (hR : F.read n p = (l, E, F2)) :
    Calls Try.prog 16 #[.pointer (some ⟨g, 0, none⟩), .int .i64 n, .int .i64 p] w fun e w' => ∃ a cap, e = .returned (.tuple #[.slice a l.length cap, .int .i64 E]) ∧ Bytes w' a l.length l ∧ (∀ ad, a = some ad → ¬ Sr ad.block) ∧ Duo Sn Sr w' g h F2 F' ∧ Fr Sn w w' := by
  refine (fread_any n p w d.fl).mono ?_
  rintro e w' ⟨⟨v, rfl, a, cap, rfl, hb, -, -, ha⟩, hf, hfr⟩
  rw [hR] at hb hf ⊢
  exact ⟨a, cap, rfl, hb, fun ad e q => by have := d.rf.2.1 _ q; have := (ha ad e).1; omega, ⟨hf, d.rf.same (hfr.sameOn fun k q1 q2 => d.dj k q2 q1), d.dj⟩, hfr⟩
theorem duo_readR {Sn Sr : Zone} {w : World} {g h : Nat} {F F' F2 : NF} {l : List Nat} {E : Int} (d : Duo Sn Sr w g h F' F) (n p : Int) (hR : F.read n p = (l, E, F2)) {ay : Option Addr} {Y : List Nat} (hy : Bytes w ay Y.length Y) (ho : ∀ ad, ay = some ad → ¬ Sr ad.block) :
    Calls Try.prog 43 #[.pointer (some ⟨h, 0, none⟩), .int .i64 n, .int .i64 p] w fun e w' => ∃ a cap, e = .returned (.tuple #[.slice a l.length cap, .int .i64 E]) ∧ Bytes w' a l.length l ∧ Bytes w' ay Y.length Y ∧ Duo Sn Sr w' g h F' F2 ∧ Fr Sr w w' := by
  refine (rread_all n p w d.rf).mono ?_
  rintro e w' ⟨⟨a, cap, rfl, hb⟩, hf, hfr⟩
  rw [hR] at hb hf ⊢
  exact ⟨a, cap, rfl, hb, hy.fr hfr ho, ⟨d.fl.same (hfr.sameOn fun k q1 q2 => d.dj k q1 q2), hf, d.dj⟩, hfr⟩
theorem duo_looked {Sn Sr : Zone} {w w1 w2 w3 : World} {g h : Nat} {F2 : NF} (h1 : Fr Sn w w1) (h2 : Fr Sr w1 w2) (h3 : Below w2.heap.size w2 w3) (d : Duo Sn Sr w3 g h F2 F2) : DuoI (fun k => Sn k ∨ Sr k) w g h F2 F2 none [] w3 :=
  ⟨Sn, Sr, d, fun k q => .inl q, ((h1.mono fun k _ q => Or.inl q).trans' (h2.mono fun k _ q => Or.inr q)).trans' (Fr.below h3), bytes_none _, fun ad e => by cases e⟩
set_option maxRecDepth 100000 in
set_option maxHeartbeats 4000000 in
theorem llooks_neg (n : Int) (p : Int) {Sn Sr : Zone} {g h : Nat} {F : NF} (w : World) (d : Duo Sn Sr w g h F F) (hn : n < 0) :
    Calls Try.prog 26 #[.pointer (some ⟨g, 0, none⟩), .pointer (some ⟨h, 0, none⟩), .int .i64 n, .int .i64 p] w (StepR Sn Sr w g h F) := by
  obtain ⟨POST, hPOST⟩ : ∃ Q, Q = StepR Sn Sr w g h F := ⟨_, rfl⟩
  rw [← hPOST]
  have HPOST := Lib.hid hPOST
  have HD := Lib.hid d
  obtain ⟨l, E, F2, hR⟩ : ∃ l E F2, F.read n p = (l, E, F2) := ⟨_, _, _, rfl⟩
  have HR := Lib.hid hR
  have hbl : F2.bl = F.bl := by
    have : (F.read n p).2.2 = F2 := by rw [hR]
    rw [← this]
    unfold NF.read
    split
    · rfl
    · split <;> rfl
  have HBl := Lib.hid hbl
  have HSh : Hid (F2.sh = F.sh) := Lib.hid (by have := F.sh_read n p; rw [hR] at this; exact this)
  obtain ⟨L, hLen⟩ : ∃ L, L = F.bl.length := ⟨_, rfl⟩
  have HLen := Lib.hid hLen
  have HAt : Hid (F2.oneAt n = false ∧ F2.failedAt n = false) := Lib.hid (by
    have : F2.at n = none := by unfold NF.at; rw [hbl]; rw [if_neg (by omega)]
    unfold NF.oneAt NF.failedAt
    rw [this]
    exact ⟨rfl, rfl⟩)
  have q1 : ¬ n ≥ 0 := by omega
  clear hPOST d hR hbl hLen hn
  go_enter Try.func26, Try.ntmps26
  go_wp2_with fail
  refine (duo_readN HD.out n p HR.out).mono ?_
  rintro e w1 ⟨a1, cap1, rfl, hb1, ho1, hd1, hf1⟩
  have HB1 := Lib.hid hb1
  have HO1 := Lib.hid ho1
  have HD1 := Lib.hid hd1
  have HF1 := Lib.hid hf1
  clear hb1 ho1 hd1 hf1
  go_wp2_with fail
  refine (duo_readR HD1.out n p HR.out HB1.out HO1.out).mono ?_
  rintro e w2 ⟨a2, cap2, rfl, hb2, hy2, hd2, hf2⟩
  have HB2 := Lib.hid hb2
  have HY2 := Lib.hid hy2
  have HD2 := Lib.hid hd2
  have HF2 := Lib.hid hf2
  clear hb2 hy2 hd2 hf2 HD1 HB1
  go_wp2_with fail
  refine (fcount_any w2 HD2.out.fl).mono ?_
  rintro e w3 ⟨rfl, hb3⟩
  have hd3 := HD2.out.below hb3
  have HD3 := Lib.hid hd3
  have HEnd := Lib.hid (duo_looked HF1.out HF2.out hb3 hd3)
  have hs1 := fun nq => run_str (P := Try.prog) ((HY2.out.below hb3 (Nat.le_refl _)).drewN nq) 29 5 9 Try.underlying29 Try.underlying5 Try.underlying9 cap1
  have hs2 := fun nq => run_str (P := Try.prog) ((HB2.out.below hb3 (Nat.le_refl _)).drewN nq) 29 5 9 Try.underlying29 Try.underlying5 Try.underlying9 cap2
  obtain ⟨⟨M, hx⟩, -⟩ := hd3.rf
  obtain ⟨c0, -, -, c3, -, c5, c6, c7, c8⟩ := hx.gcells

  obtain ⟨gb, hgb⟩ : ∃ gb, gb = M.gb := ⟨_, rfl⟩
  rw [← hgb] at c0 
  rw [HBl.out, ← HLen.out] at c0
  have hdn : ∀ nq, Duo Sn Sr (w3.drewN nq) g h F2 F2 := fun nq => hd3.below (below_drewN' (Below.refl _ _) nq)
  have HN1 := Lib.hid (fun nq => fnext_any n (w3.drewN nq) (hdn nq).fl)
  have HN2 := Lib.hid (fun nq => rnext_all n (w3.drewN nq) (hdn nq).rf)
  have HOn := Lib.hid (fun nq => fone_any n (w3.drewN nq) (hdn nq).fl)
  have HFa := Lib.hid (fun nq => ffailed_any n (w3.drewN nq) (hdn nq).fl)
  have HOf := Lib.hid (fun nq => foff_any (w3.drewN nq) (hdn nq).fl)
  rw [HAt.out.1] at HOn
  rw [HAt.out.2] at HFa
  clear hb3 hd3 hdn hx hgb HD2 HB2 HY2 HF1 HF2 HAt
  generalize F2.nextAt n = nx at HN1 HN2
  generalize F2.st = st at c5 ⊢
  generalize F2.pr = pr at c6 ⊢
  generalize F2.rd = rd at c7 ⊢
  generalize F2.er = er at c8 ⊢
  generalize F2.off = off at c3 HOf
  go_wp2_with fail
  go_quiet ((first | (go_at_call 12; exact quietC (HN1.out _)) | (go_at_call 45; exact quietC (HN2.out _)) | (go_at_call 21; exact quietC (HOn.out _)) | (go_at_call 19; exact quietC (HFa.out _)) | (go_at_call 14; exact quietC (HOf.out _))))
  go_wp2_with fail
  rw [HPOST.out]
  exact ⟨rfl, _, HEnd.out.below (below_drewN' (Below.refl _ _) nq), HSh.out⟩
set_option maxRecDepth 100000 in
set_option maxHeartbeats 4000000 in
theorem llooks_far (n : Int) (p : Int) {Sn Sr : Zone} {g h : Nat} {F : NF} (w : World) (d : Duo Sn Sr w g h F F) (hn : 0 ≤ n) (hf : (F.bl.length : Int) ≤ n) :
    Calls Try.prog 26 #[.pointer (some ⟨g, 0, none⟩), .pointer (some ⟨h, 0, none⟩), .int .i64 n, .int .i64 p] w (StepR Sn Sr w g h F) := by
  obtain ⟨POST, hPOST⟩ : ∃ Q, Q = StepR Sn Sr w g h F := ⟨_, rfl⟩
  rw [← hPOST]
  have HPOST := Lib.hid hPOST
  have HD := Lib.hid d
  obtain ⟨l, E, F2, hR⟩ : ∃ l E F2, F.read n p = (l, E, F2) := ⟨_, _, _, rfl⟩
  have HR := Lib.hid hR
  have hbl : F2.bl = F.bl := by
    have : (F.read n p).2.2 = F2 := by rw [hR]
    rw [← this]
    unfold NF.read
    split
    · rfl
    · split <;> rfl
  have HBl := Lib.hid hbl
  have HSh : Hid (F2.sh = F.sh) := Lib.hid (by have := F.sh_read n p; rw [hR] at this; exact this)
  obtain ⟨L, hLen⟩ : ∃ L, L = F.bl.length := ⟨_, rfl⟩
  have HLen := Lib.hid hLen
  have HAt : Hid (F2.oneAt n = false ∧ F2.failedAt n = false) := Lib.hid (by
    have : F2.at n = none := by unfold NF.at; rw [hbl]; rw [if_pos hn, List.getElem?_eq_none_iff]; omega
    unfold NF.oneAt NF.failedAt
    rw [this]
    exact ⟨rfl, rfl⟩)
  have q1 : n ≥ 0 := hn
  have q2 : ¬ n < (L : Int) := by omega
  clear hPOST d hR hbl hLen hn hf
  go_enter Try.func26, Try.ntmps26
  go_wp2_with fail
  refine (duo_readN HD.out n p HR.out).mono ?_
  rintro e w1 ⟨a1, cap1, rfl, hb1, ho1, hd1, hf1⟩
  have HB1 := Lib.hid hb1
  have HO1 := Lib.hid ho1
  have HD1 := Lib.hid hd1
  have HF1 := Lib.hid hf1
  clear hb1 ho1 hd1 hf1
  go_wp2_with fail
  refine (duo_readR HD1.out n p HR.out HB1.out HO1.out).mono ?_
  rintro e w2 ⟨a2, cap2, rfl, hb2, hy2, hd2, hf2⟩
  have HB2 := Lib.hid hb2
  have HY2 := Lib.hid hy2
  have HD2 := Lib.hid hd2
  have HF2 := Lib.hid hf2
  clear hb2 hy2 hd2 hf2 HD1 HB1
  go_wp2_with fail
  refine (fcount_any w2 HD2.out.fl).mono ?_
  rintro e w3 ⟨rfl, hb3⟩
  have hd3 := HD2.out.below hb3
  have HD3 := Lib.hid hd3
  have HEnd := Lib.hid (duo_looked HF1.out HF2.out hb3 hd3)
  have hs1 := fun nq => run_str (P := Try.prog) ((HY2.out.below hb3 (Nat.le_refl _)).drewN nq) 29 5 9 Try.underlying29 Try.underlying5 Try.underlying9 cap1
  have hs2 := fun nq => run_str (P := Try.prog) ((HB2.out.below hb3 (Nat.le_refl _)).drewN nq) 29 5 9 Try.underlying29 Try.underlying5 Try.underlying9 cap2
  obtain ⟨⟨M, hx⟩, -⟩ := hd3.rf
  obtain ⟨c0, -, -, c3, -, c5, c6, c7, c8⟩ := hx.gcells

  obtain ⟨gb, hgb⟩ : ∃ gb, gb = M.gb := ⟨_, rfl⟩
  rw [← hgb] at c0 
  rw [HBl.out, ← HLen.out] at c0
  have hdn : ∀ nq, Duo Sn Sr (w3.drewN nq) g h F2 F2 := fun nq => hd3.below (below_drewN' (Below.refl _ _) nq)
  have HN1 := Lib.hid (fun nq => fnext_any n (w3.drewN nq) (hdn nq).fl)
  have HN2 := Lib.hid (fun nq => rnext_all n (w3.drewN nq) (hdn nq).rf)
  have HOn := Lib.hid (fun nq => fone_any n (w3.drewN nq) (hdn nq).fl)
  have HFa := Lib.hid (fun nq => ffailed_any n (w3.drewN nq) (hdn nq).fl)
  have HOf := Lib.hid (fun nq => foff_any (w3.drewN nq) (hdn nq).fl)
  rw [HAt.out.1] at HOn
  rw [HAt.out.2] at HFa
  clear hb3 hd3 hdn hx hgb HD2 HB2 HY2 HF1 HF2 HAt
  generalize F2.nextAt n = nx at HN1 HN2
  generalize F2.st = st at c5 ⊢
  generalize F2.pr = pr at c6 ⊢
  generalize F2.rd = rd at c7 ⊢
  generalize F2.er = er at c8 ⊢
  generalize F2.off = off at c3 HOf
  go_wp2_with fail
  go_quiet ((first | (go_at_call 12; exact quietC (HN1.out _)) | (go_at_call 45; exact quietC (HN2.out _)) | (go_at_call 21; exact quietC (HOn.out _)) | (go_at_call 19; exact quietC (HFa.out _)) | (go_at_call 14; exact quietC (HOf.out _))))
  go_wp2_with fail
  rw [HPOST.out]
  exact ⟨rfl, _, HEnd.out.below (below_drewN' (Below.refl _ _) nq), HSh.out⟩
set_option maxRecDepth 100000 in
set_option maxHeartbeats 4000000 in
theorem llooks_in (n : Nat) (p : Int) {Sn Sr : Zone} {g h : Nat} {F : NF} (w : World) (d : Duo Sn Sr w g h F F) (x : NB) (hx0 : F.bl[n]? = some x) :
    Calls Try.prog 26 #[.pointer (some ⟨g, 0, none⟩), .pointer (some ⟨h, 0, none⟩), .int .i64 (n : Int), .int .i64 p] w (StepR Sn Sr w g h F) := by
  obtain ⟨POST, hPOST⟩ : ∃ Q, Q = StepR Sn Sr w g h F := ⟨_, rfl⟩
  rw [← hPOST]
  have HPOST := Lib.hid hPOST
  have HD := Lib.hid d
  obtain ⟨l, E, F2, hR⟩ : ∃ l E F2, F.read (n : Int) p = (l, E, F2) := ⟨_, _, _, rfl⟩
  have HR := Lib.hid hR
  have hbl : F2.bl = F.bl := by
    have : (F.read (n : Int) p).2.2 = F2 := by rw [hR]
    rw [← this]
    unfold NF.read
    split
    · rfl
    · split <;> rfl
  have HBl := Lib.hid hbl
  have HSh : Hid (F2.sh = F.sh) := Lib.hid (by have := F.sh_read (n : Int) p; rw [hR] at this; exact this)
  obtain ⟨L, hLen⟩ : ∃ L, L = F.bl.length := ⟨_, rfl⟩
  have HLen := Lib.hid hLen
  have HX0 : Hid (F2.bl[n]? = some x) := Lib.hid (by rw [hbl]; exact hx0)
  have HAt : Hid (F2.oneAt n = x.one ∧ F2.failedAt n = x.failed) := Lib.hid (by
    have : F2.at (n : Int) = some x := by unfold NF.at; rw [if_pos (by omega)]; exact HX0.out
    unfold NF.oneAt NF.failedAt
    rw [this]
    exact ⟨rfl, rfl⟩)
  have hnl := lt_of_get hx0
  have q1 : (n : Int) ≥ 0 := by omega
  have q2 : (n : Int) < (L : Int) := by omega
  have q3 : (0 : Int) ≤ (n : Int) ∧ (n : Int) < (L : Int) := by omega
  clear hPOST d hR hbl hLen hx0 hnl
  go_enter Try.func26, Try.ntmps26
  go_wp2_with fail
  refine (duo_readN HD.out (n : Int) p HR.out).mono ?_
  rintro e w1 ⟨a1, cap1, rfl, hb1, ho1, hd1, hf1⟩
  have HB1 := Lib.hid hb1
  have HO1 := Lib.hid ho1
  have HD1 := Lib.hid hd1
  have HF1 := Lib.hid hf1
  clear hb1 ho1 hd1 hf1
  go_wp2_with fail
  refine (duo_readR HD1.out (n : Int) p HR.out HB1.out HO1.out).mono ?_
  rintro e w2 ⟨a2, cap2, rfl, hb2, hy2, hd2, hf2⟩
  have HB2 := Lib.hid hb2
  have HY2 := Lib.hid hy2
  have HD2 := Lib.hid hd2
  have HF2 := Lib.hid hf2
  clear hb2 hy2 hd2 hf2 HD1 HB1
  go_wp2_with fail
  refine (fcount_any w2 HD2.out.fl).mono ?_
  rintro e w3 ⟨rfl, hb3⟩
  have hd3 := HD2.out.below hb3
  have HD3 := Lib.hid hd3
  have HEnd := Lib.hid (duo_looked HF1.out HF2.out hb3 hd3)
  have hs1 := fun nq => run_str (P := Try.prog) ((HY2.out.below hb3 (Nat.le_refl _)).drewN nq) 29 5 9 Try.underlying29 Try.underlying5 Try.underlying9 cap1
  have hs2 := fun nq => run_str (P := Try.prog) ((HB2.out.below hb3 (Nat.le_refl _)).drewN nq) 29 5 9 Try.underlying29 Try.underlying5 Try.underlying9 cap2
  obtain ⟨⟨M, hx⟩, -⟩ := hd3.rf
  obtain ⟨c0, -, -, c3, -, c5, c6, c7, c8⟩ := hx.gcells
  obtain ⟨-, b1, -, b3⟩ := hx.bcells HX0.out
  rw [Nat.mul_comm 4 n] at b1 b3
  obtain ⟨gb, hgb⟩ : ∃ gb, gb = M.gb := ⟨_, rfl⟩
  rw [← hgb] at c0 b1 b3
  rw [HBl.out, ← HLen.out] at c0
  have hdn : ∀ nq, Duo Sn Sr (w3.drewN nq) g h F2 F2 := fun nq => hd3.below (below_drewN' (Below.refl _ _) nq)
  have HN1 := Lib.hid (fun nq => fnext_any (n : Int) (w3.drewN nq) (hdn nq).fl)
  have HN2 := Lib.hid (fun nq => rnext_all (n : Int) (w3.drewN nq) (hdn nq).rf)
  have HOn := Lib.hid (fun nq => fone_any (n : Int) (w3.drewN nq) (hdn nq).fl)
  have HFa := Lib.hid (fun nq => ffailed_any (n : Int) (w3.drewN nq) (hdn nq).fl)
  have HOf := Lib.hid (fun nq => foff_any (w3.drewN nq) (hdn nq).fl)
  rw [HAt.out.1] at HOn
  rw [HAt.out.2] at HFa
  clear hb3 hd3 hdn hx hgb HD2 HB2 HY2 HF1 HF2 HAt HX0
  generalize x.one = xo at b1 HOn
  generalize x.failed = xf at b3 HFa
  generalize F2.nextAt (n : Int) = nx at HN1 HN2
  generalize F2.st = st at c5 ⊢
  generalize F2.pr = pr at c6 ⊢
  generalize F2.rd = rd at c7 ⊢
  generalize F2.er = er at c8 ⊢
  generalize F2.off = off at c3 HOf
  go_wp2_with fail
  go_quiet ((first | (go_at_call 12; exact quietC (HN1.out _)) | (go_at_call 45; exact quietC (HN2.out _)) | (go_at_call 21; exact quietC (HOn.out _)) | (go_at_call 19; exact quietC (HFa.out _)) | (go_at_call 14; exact quietC (HOf.out _))))
  go_wp2_with fail
  rw [HPOST.out]
  exact ⟨rfl, _, HEnd.out.below (below_drewN' (Below.refl _ _) nq), HSh.out⟩
theorem llooks_any (n p : Int) {Sn Sr : Zone} {g h : Nat} {F : NF} (w : World) (d : Duo Sn Sr w g h F F) :
    Calls Try.prog 26 #[.pointer (some ⟨g, 0, none⟩), .pointer (some ⟨h, 0, none⟩), .int .i64 n, .int .i64 p] w (StepR Sn Sr w g h F) := by
  by_cases h0 : n < 0
  · exact llooks_neg n p w d h0
  by_cases h1 : (F.bl.length : Int) ≤ n
  · exact llooks_far n p w d (by omega) h1
  obtain ⟨m, rfl⟩ : ∃ m : Nat, n = m := ⟨n.toNat, by omega⟩
  exact llooks_in m p w d F.bl[m] (List.getElem?_eq_getElem (by omega))
end Go.Proofs.Ytbbhniohliklhaa
