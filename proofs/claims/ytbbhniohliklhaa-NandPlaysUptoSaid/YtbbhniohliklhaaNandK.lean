/- nand: Read, Flip. -/
import Derived.Test.YtbbhniohliklhaaNandJ
namespace Go.Proofs.Ytbbhniohliklhaa
open Go Go.RowKit
set_option linter.unusedVariables false

def NF.readE (F : NF) (x : NB) (p : Int) : Int := if F.off then 4 else if !F.has x p then 1 else if x.half then 8 else 0
def NF.readF (F : NF) : NF := { F with rd := IntKind.i64.wrap (F.rd + 1) }
theorem FlashX.readF {M : NMem} {S : Zone} {w : World} {g : Nat} {F : NF} {ex : Nat → Nat → Bool} (h : FlashX M S w g F ex) : FlashX M S (w.setCell ⟨g, 7, none⟩ (.int .i64 (IntKind.i64.wrap (F.rd + 1)))) g F.readF ex := h.setOwn 7 _ (by simp [NF.cells, NF.readF]) rfl rfl
/-- What Read gives: a copy of the page. -/
def ReadR (S : Zone) (w : World) (g : Nat) (F : NF) (l : List Nat) (e : Ending) (w' : World) : Prop :=
  (∃ v, e = .returned (.tuple #[v, .int .i64 0]) ∧ w'.ownsRow w.heap.size 5 1 v (F.ch * 73) (u8s (F.raw l))) ∧ FlashAt S w' g F.readF ∧ Fr S w w'

set_option maxRecDepth 100000 in
set_option maxHeartbeats 4000000 in
theorem nread_ok {M : NMem} {S : Zone} {g : Nat} {F : NF} (n p : Nat) (x : NB) (l : List Nat) (w : World) (h : FlashX M S w g F noEx) (hl : S.lives w) (hx : F.bl[n]? = some x) (hp : x.pages[p]? = some l) (hok : F.Ok) (he : F.readE x p = 0) :
    Calls Try.prog 16 #[.pointer (some ⟨g, 0, none⟩), .int .i64 (n : Int), .int .i64 (p : Int)] w (ReadR S w g F l) := by
  obtain ⟨POST, hPOST⟩ : ∃ Q, Q = ReadR S w g F l := ⟨_, rfl⟩
  rw [← hPOST]
  have HPOST := Lib.hid hPOST
  clear hPOST
  have hoff : F.off = false := by unfold NF.readE at he; cases h : F.off <;> simp [h] at he ⊢
  have hhas : F.has x p = true := by unfold NF.readE at he; cases h : F.has x p <;> simp [h, hoff] at he ⊢
  have hhalf : x.half = false := by unfold NF.readE at he; cases h : x.half <;> simp [h, hoff, hhas] at he ⊢
  obtain ⟨-, -, -, -, -, -, -, c7, -⟩ := h.gcells
  have f7 := h.gfree 7
  obtain ⟨-, -, b2, -⟩ := h.bcells hx
  rw [hhalf] at b2
  have HBk := Lib.hid (fun w (h : FlashX M S w g F noEx) => nblk_in n w h (lt_of_get hx) hok.nb)
  have HOff := Lib.hid (fun w (h : FlashX M S w g F noEx) => by have := noff_any w h; rwa [hoff] at this)
  have HPg := Lib.hid (fun w (h : FlashX M S w g F noEx) => by have := npage_any n x p w h hx hok.np; rwa [hhas] at this)
  have hf := h.readF
  have hraw := nraw_any n p x l _ hf hx hp rfl (hok.pgAt hx hp) hok.c1 hok.c8
  have HH := Lib.hid h
  have HL := Lib.hid hl
  have HF := Lib.hid hf
  have HRaw := Lib.hid hraw
  have HFr : Hid (Fr S w (w.setCell ⟨g, 7, none⟩ (.int .i64 (IntKind.i64.wrap (F.rd + 1))))) := Lib.hid (h.frOwn (gb_set (gb_refl _ _) _ _))
  obtain ⟨q, hq⟩ : ∃ q, q = 5 * n := ⟨_, rfl⟩
  rw [← hq] at HBk HPg HRaw b2
  clear h hl hx hp hok he hoff hhas hhalf hf hraw hq
  obtain ⟨rd, hrd⟩ : ∃ rd, rd = F.rd := ⟨_, rfl⟩
  rw [← hrd] at c7 HFr HF HRaw
  clear hrd
  go_enter Try.func16, Try.ntmps16
  go_wp2_with fail
  refine (HBk.out _ HH.out).mono ?_
  rintro e w1 ⟨rfl, rfl⟩
  go_wp2_with fail
  refine (HOff.out _ HH.out).mono ?_
  rintro e w1 ⟨rfl, rfl⟩
  go_wp2_with fail
  refine (HPg.out _ HH.out).mono ?_
  rintro e w1 ⟨rfl, rfl⟩
  go_wp2_with fail
  refine (nadd_any g 7 rd _ c7 f7).mono ?_
  rintro e w1 ⟨rfl, rfl⟩
  have HSz : Hid ((w.setCell ⟨g, 7, none⟩ (.int .i64 (IntKind.i64.wrap (rd + 1)))).heap.size = w.heap.size) := Lib.hid (by simp)
  generalize w.setCell ⟨g, 7, none⟩ (.int .i64 (IntKind.i64.wrap (rd + 1))) = w1 at HSz HF HRaw HFr ⊢
  go_wp2_with fail
  refine HRaw.out.mono ?_
  rintro e w2 ⟨⟨v, rfl, hown⟩, hb2⟩
  have HO := Lib.hid hown
  have HB := Lib.hid hb2
  clear hown hb2 c7 f7 b2
  go_wp2_with fail
  rw [HPOST.out]
  refine ⟨⟨v, rfl, by have := HO.out; rw [HSz.out] at this; simpa [NF.readF, NF.raw] using this⟩, ⟨⟨M, HF.out.below HB.out⟩, fun k hk => Nat.lt_of_lt_of_le (HL.out k hk) (by have := HB.out.size; rw [HSz.out] at this; exact this)⟩, HFr.out.trans' (Fr.below HB.out)⟩

theorem nread_err {M : NMem} {S : Zone} {g : Nat} {F : NF} (n : Nat) (p : Int) (x : NB) (w : World) (h : FlashX M S w g F noEx) (hx : F.bl[n]? = some x) (hok : F.Ok) (he : F.readE x p ≠ 0) :
    Calls Try.prog 16 #[.pointer (some ⟨g, 0, none⟩), .int .i64 (n : Int), .int .i64 p] w fun e w' => e = .returned (.tuple #[.slice none 0 0, .int .i64 (F.readE x p)]) ∧ w = w' := by
  obtain ⟨-, -, b2, -⟩ := h.bcells hx
  have HBk := Lib.hid (fun w (h : FlashX M S w g F noEx) => nblk_in n w h (lt_of_get hx) hok.nb)
  have HOff := Lib.hid (fun w (h : FlashX M S w g F noEx) => noff_any w h)
  have HPg := Lib.hid (fun w (h : FlashX M S w g F noEx) => npage_any n x p w h hx hok.np)
  have HH := Lib.hid h
  have hE : F.readE x p = if F.off then 4 else if !F.has x p then 1 else if x.half then 8 else 0 := rfl
  generalize F.readE x p = E at he hE ⊢
  generalize F.off = off at HOff hE
  generalize F.has x p = has at HPg hE
  generalize x.half = hf at b2 hE
  obtain ⟨q, hq⟩ : ∃ q, q = 5 * n := ⟨_, rfl⟩
  rw [← hq] at HBk HPg b2
  clear h hx hok hq
  cases off with
  | true =>
    obtain rfl : E = 4 := hE
    clear he
    go_enter Try.func16, Try.ntmps16
    go_wp2_with fail
    refine (HBk.out _ HH.out).mono ?_
    rintro e w1 ⟨rfl, rfl⟩
    go_wp2_with fail
    refine (HOff.out _ HH.out).mono ?_
    rintro e w1 ⟨rfl, rfl⟩
    go_wp2_with fail
    go_ret2
    exact ⟨rfl, rfl⟩
  | false =>
    cases has with
    | false =>
      obtain rfl : E = 1 := hE
      clear he
      go_enter Try.func16, Try.ntmps16
      go_wp2_with fail
      refine (HBk.out _ HH.out).mono ?_
      rintro e w1 ⟨rfl, rfl⟩
      go_wp2_with fail
      refine (HOff.out _ HH.out).mono ?_
      rintro e w1 ⟨rfl, rfl⟩
      go_wp2_with fail
      refine (HPg.out _ HH.out).mono ?_
      rintro e w1 ⟨rfl, rfl⟩
      go_wp2_with fail
      go_ret2
      exact ⟨rfl, rfl⟩
    | true =>
      cases hf with
      | false => exact absurd hE he
      | true =>
        obtain rfl : E = 8 := hE
        clear he
        go_enter Try.func16, Try.ntmps16
        go_wp2_with fail
        refine (HBk.out _ HH.out).mono ?_
        rintro e w1 ⟨rfl, rfl⟩
        go_wp2_with fail
        refine (HOff.out _ HH.out).mono ?_
        rintro e w1 ⟨rfl, rfl⟩
        go_wp2_with fail
        refine (HPg.out _ HH.out).mono ?_
        rintro e w1 ⟨rfl, rfl⟩
        go_wp2_with fail
        go_ret2
        exact ⟨rfl, rfl⟩
theorem nread_out {M : NMem} {S : Zone} {g : Nat} {F : NF} (n p : Int) (w : World) (h : FlashX M S w g F noEx) (hn : n < 0 ∨ (F.bl.length : Int) ≤ n) (hok : F.Ok) :
    Calls Try.prog 16 #[.pointer (some ⟨g, 0, none⟩), .int .i64 n, .int .i64 p] w fun e w' => e = .returned (.tuple #[.slice none 0 0, .int .i64 (if F.off then 4 else 1)]) ∧ w = w' := by
  have HBk := Lib.hid (fun w (h : FlashX M S w g F noEx) => nblk_out n w h hn hok.nb)
  have HOff := Lib.hid (fun w (h : FlashX M S w g F noEx) => noff_any w h)
  have HPg := Lib.hid (fun w (h : FlashX M S w g F noEx) => npage_nil p w h)
  have HH := Lib.hid h
  generalize F.off = off at HOff ⊢
  clear h hok hn
  cases off with
  | true =>
    go_enter Try.func16, Try.ntmps16
    go_wp2_with fail
    refine (HBk.out _ HH.out).mono ?_
    rintro e w1 ⟨rfl, rfl⟩
    go_wp2_with fail
    refine (HOff.out _ HH.out).mono ?_
    rintro e w1 ⟨rfl, rfl⟩
    go_wp2_with fail
    go_ret2
    exact ⟨rfl, rfl⟩
  | false =>
    go_enter Try.func16, Try.ntmps16
    go_wp2_with fail
    refine (HBk.out _ HH.out).mono ?_
    rintro e w1 ⟨rfl, rfl⟩
    go_wp2_with fail
    refine (HOff.out _ HH.out).mono ?_
    rintro e w1 ⟨rfl, rfl⟩
    go_wp2_with fail
    refine (HPg.out _ HH.out).mono ?_
    rintro e w1 ⟨rfl, rfl⟩
    go_wp2_with fail
    go_ret2
    exact ⟨rfl, rfl⟩
end Go.Proofs.Ytbbhniohliklhaa
