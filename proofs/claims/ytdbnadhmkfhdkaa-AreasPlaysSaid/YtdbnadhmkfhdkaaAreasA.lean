/- areas: a setting, a table in memory; New. -/
import Derived.Test.YtdbnadhmkfhdkaaGeomH
import Derived.Test.YtdbnadhmkfhdkaaGeomE
import Derived.Test.YtdbnadhmkfhdkaaMut
namespace Go.Proofs.Ytdbnadhmkfhdkaa
open Go Go.RowKit
set_option linter.unusedVariables false

structure Stg where
  a : Int
  b : Int
  d : Int
  e : Int
  v : Int
  dn : Bool
def Stg.cells (s : Stg) : List Value := [.int .i64 s.a, .int .i64 s.b, .int .i64 s.d, .int .i64 s.e, .int .u8 s.v, .bool s.dn]
def Stg.wf (s : Stg) : Prop := I64 s.a ∧ I64 s.b ∧ I64 s.d ∧ I64 s.e ∧ 0 ≤ s.v ∧ s.v < 256
def Stg.zero : Stg := ⟨0, 0, 0, 0, 0, false⟩
theorem Stg.zero_wf : Stg.zero.wf := by unfold Stg.wf Stg.zero I64; decide
/-- Whether a table is made of them. -/
noncomputable def goodOf (c : Cfg) (s : Stg) : Bool := decide (checkOf c = 0) && (!s.dn || fitsOf c s.a s.b s.d s.e s.v)
/-- A setting that is in force. -/
def NowOk (c : Cfg) (n : Stg) : Prop := (n.dn = true → SizesOk c n.a n.b n.d n.e) ∧ (n.dn = false → n = Stg.zero)
def nowOf (s : Stg) : Stg := if s.dn then s else Stg.zero
theorem now_ok {c : Cfg} {s : Stg} (h : goodOf c s = true) : NowOk c (nowOf s) := by
  unfold goodOf at h
  simp only [Bool.and_eq_true, Bool.or_eq_true, Bool.not_eq_true', decide_eq_true_eq] at h
  unfold nowOf
  cases hd : s.dn with
  | false => exact ⟨fun k => by simp [Stg.zero] at k, fun _ => by simp⟩
  | true =>
    refine ⟨fun _ => ?_, fun k => ?_⟩
    · rcases h.2 with q | q
      · rw [hd] at q; cases q
      · exact (fits_yes q).2.2.1
    · simp at k; rw [hd] at k; cases k

/-- A table's cells. -/
def preL (c : Cfg) (s n : Stg) (od om : Int) : List Value := c.cells ++ (s.cells ++ (n.cells ++ [.int .u32 od, .int .i32 om, .int .u32 0]))
def tabL (c : Cfg) (s n : Stg) (od om : Int) (sz fi : List Value) : List Value := preL c s n od om ++ (sz ++ fi)
def TabW (w : World) (g : Nat) (c : Cfg) (s n : Stg) (od om : Int) (sz fi : List Value) : Prop := HasB w g (tabL c s n od om sz fi).toArray 100 ∧ sz.length = 8 ∧ fi.length = 8
theorem TabW.setNow {w : World} {g : Nat} {c : Cfg} {s n : Stg} {od om : Int} {sz fi : List Value} (h : TabW w g c s n od om sz fi) (z : Stg) : TabW ((((((w.setCell ⟨g, 15, none⟩ (.int .i64 z.a)).setCell ⟨g, 16, none⟩ (.int .i64 z.b)).setCell ⟨g, 17, none⟩ (.int .i64 z.d)).setCell ⟨g, 18, none⟩ (.int .i64 z.e)).setCell ⟨g, 19, none⟩ (.int .u8 z.v)).setCell ⟨g, 20, none⟩ (.bool z.dn)) g c s z od om sz fi := by
  obtain ⟨h1, h2, h3⟩ := h
  refine ⟨?_, h2, h3⟩
  have q := (((((h1.set 15 (.int .i64 z.a)).set 16 (.int .i64 z.b)).set 17 (.int .i64 z.d)).set 18 (.int .i64 z.e)).set 19 (.int .u8 z.v)).set 20 (.bool z.dn)
  have e : ((((((tabL c s n od om sz fi).toArray.setIfInBounds 15 (.int .i64 z.a)).setIfInBounds 16 (.int .i64 z.b)).setIfInBounds 17 (.int .i64 z.d)).setIfInBounds 18 (.int .i64 z.e)).setIfInBounds 19 (.int .u8 z.v)).setIfInBounds 20 (.bool z.dn) = (tabL c s z od om sz fi).toArray := by simp [tabL, preL, Cfg.cells, Stg.cells]
  rw [e] at q
  exact q
theorem TabW.setS {w : World} {g : Nat} {c : Cfg} {s n : Stg} {od om : Int} {sz fi : List Value} (h : TabW w g c s n od om sz fi) (z : Stg) : TabW ((((((w.setCell ⟨g, 9, none⟩ (.int .i64 z.a)).setCell ⟨g, 10, none⟩ (.int .i64 z.b)).setCell ⟨g, 11, none⟩ (.int .i64 z.d)).setCell ⟨g, 12, none⟩ (.int .i64 z.e)).setCell ⟨g, 13, none⟩ (.int .u8 z.v)).setCell ⟨g, 14, none⟩ (.bool z.dn)) g c z n od om sz fi := by
  obtain ⟨h1, h2, h3⟩ := h
  refine ⟨?_, h2, h3⟩
  have q := (((((h1.set 9 (.int .i64 z.a)).set 10 (.int .i64 z.b)).set 11 (.int .i64 z.d)).set 12 (.int .i64 z.e)).set 13 (.int .u8 z.v)).set 14 (.bool z.dn)
  have e : ((((((tabL c s n od om sz fi).toArray.setIfInBounds 9 (.int .i64 z.a)).setIfInBounds 10 (.int .i64 z.b)).setIfInBounds 11 (.int .i64 z.d)).setIfInBounds 12 (.int .i64 z.e)).setIfInBounds 13 (.int .u8 z.v)).setIfInBounds 14 (.bool z.dn) = (tabL c z n od om sz fi).toArray := by simp [tabL, preL, Cfg.cells, Stg.cells]
  rw [e] at q
  exact q
def zero8 : List Value := List.replicate 8 (.int .i64 0)
theorem HasB.six {w : World} {g : Nat} {a0 a1 a2 a3 a4 a5 : Value} {T : TypeId} (h : HasB w g #[a0, a1, a2, a3, a4, a5] T) :
    g < w.heap.size ∧ w.cell? ⟨g, 0, none⟩ = some a0 ∧ w.cell? ⟨g, 1, none⟩ = some a1 ∧ w.cell? ⟨g, 2, none⟩ = some a2 ∧ w.cell? ⟨g, 3, none⟩ = some a3 ∧ w.cell? ⟨g, 4, none⟩ = some a4 ∧ w.cell? ⟨g, 5, none⟩ = some a5 := ⟨h.lt, h.at 0, h.at 1, h.at 2, h.at 3, h.at 4, h.at 5⟩
theorem good_bad {c : Cfg} {s : Stg} (h : checkOf c = 1) : goodOf c s = false := by unfold goodOf; simp [h]
theorem good_off {c : Cfg} {s : Stg} (h : checkOf c = 0) (hd : s.dn = false) : goodOf c s = true := by unfold goodOf; simp [h, hd]
theorem good_on {c : Cfg} {s : Stg} (h : checkOf c = 0) (hd : s.dn = true) : goodOf c s = fitsOf c s.a s.b s.d s.e s.v := by unfold goodOf; simp [h, hd]

/-- What New returns. -/
def NewR (w : World) (c : Cfg) (s : Stg) (x : Ending) (w' : World) : Prop :=
  (goodOf c s = false ∧ x = .returned (.tuple #[.pointer none, .int .i64 1])) ∨ (goodOf c s = true ∧ ∃ g, w.heap.size ≤ g ∧ x = .returned (.tuple #[.pointer (some ⟨g, 0, none⟩), .int .i64 0]) ∧ TabW w' g c s (nowOf s) 0 0 zero8 zero8)

set_option maxRecDepth 100000 in
set_option maxHeartbeats 4000000 in
theorem anew_any (c : Cfg) (s : Stg) (w : World) (hwf : c.wf) (hs : s.wf) :
    Calls Try.prog 15 #[.agg #[.int .i64 c.blocks, .int .i64 c.pages, .int .i64 c.sector, .int .i64 c.user, .int .i64 c.boot, .int .i64 c.rpa, .int .i64 c.group, .int .i64 c.cache, .int .i64 c.spare], .agg #[.int .i64 s.a, .int .i64 s.b, .int .i64 s.d, .int .i64 s.e, .int .u8 s.v, .bool s.dn]] w fun x w' => NewR w c s x w' ∧ Below w.heap.size w w' := by
  obtain ⟨za, zb, zd, ze, zv, zn⟩ := s
  have HS := Lib.hid hs
  have HW := Lib.hid hwf
  obtain ⟨POST, hPOST⟩ : ∃ POST : Ending → World → Prop, POST = fun x w' => NewR w c ⟨za, zb, zd, ze, zv, zn⟩ x w' ∧ Below w.heap.size w w' := ⟨_, rfl⟩
  rw [← hPOST]
  have HPost := Lib.hid hPOST
  clear hPOST hs hwf
  have n1 : HasB ((w.alloc (.cells #[.int .i64 c.blocks, .int .i64 c.pages, .int .i64 c.sector, .int .i64 c.user, .int .i64 c.boot, .int .i64 c.rpa, .int .i64 c.group, .int .i64 c.cache, .int .i64 c.spare] 23)).alloc (.cells #[.int .i64 za, .int .i64 zb, .int .i64 zd, .int .i64 ze, .int .u8 zv, .bool zn] 36)) w.heap.size #[.int .i64 c.blocks, .int .i64 c.pages, .int .i64 c.sector, .int .i64 c.user, .int .i64 c.boot, .int .i64 c.rpa, .int .i64 c.group, .int .i64 c.cache, .int .i64 c.spare] 23 := (HasB.new w _ _).alloc _
  have n2 : HasB ((w.alloc (.cells #[.int .i64 c.blocks, .int .i64 c.pages, .int .i64 c.sector, .int .i64 c.user, .int .i64 c.boot, .int .i64 c.rpa, .int .i64 c.group, .int .i64 c.cache, .int .i64 c.spare] 23)).alloc (.cells #[.int .i64 za, .int .i64 zb, .int .i64 zd, .int .i64 ze, .int .u8 zv, .bool zn] 36)) (w.heap.size + 1) #[.int .i64 za, .int .i64 zb, .int .i64 zd, .int .i64 ze, .int .u8 zv, .bool zn] 36 := HasB.new' (by simp) _ _
  have N1 := Lib.hid n1
  have N2 := Lib.hid n2
  have HB0 : Hid (Below w.heap.size w ((w.alloc (.cells #[.int .i64 c.blocks, .int .i64 c.pages, .int .i64 c.sector, .int .i64 c.user, .int .i64 c.boot, .int .i64 c.rpa, .int .i64 c.group, .int .i64 c.cache, .int .i64 c.spare] 23)).alloc (.cells #[.int .i64 za, .int .i64 zb, .int .i64 zd, .int .i64 ze, .int .u8 zv, .bool zn] 36))) := Lib.hid (((Below.refl _ _).alloc (Nat.le_refl _) _).alloc (by simp) _)
  clear n1 n2
  go_enter Try.func15, Try.ntmps15
  go_wp2_with fail
  refine (check_any c _ HW.out).mono ?_
  rintro x w1 ⟨rfl, hb1⟩
  have M1 := Lib.hid (N1.out.below hb1 N1.out.lt)
  have M2 := Lib.hid (N2.out.below hb1 N2.out.lt)
  have HB1 : Hid (Below w.heap.size w w1) := Lib.hid (HB0.out.trans (hb1.mono HB0.out.size))
  clear hb1 N1 N2 HB0
  rcases checkOf_two c with hc | hc
  · rw [hc]
    have HCk := Lib.hid hc
    clear hc
    cases zn with
    | false =>
      have HG := Lib.hid (good_off (s := ⟨za, zb, zd, ze, zv, false⟩) HCk.out rfl)
      obtain ⟨l1, x0, x1, x2, x3, x4, x5, x6, x7, x8⟩ := HasB.nine M1.out
      obtain ⟨l2, y0, y1, y2, y3, y4, y5⟩ := HasB.six M2.out
      go_wp2_with fail
      rw [HPost.out]
      exact ⟨.inr ⟨HG.out, w1.heap.size, HB1.out.size, rfl, ⟨HasB.new _ _ _, rfl, rfl⟩⟩, HB1.out.alloc HB1.out.size _⟩
    | true =>
      have HG := Lib.hid (good_on (s := ⟨za, zb, zd, ze, zv, true⟩) HCk.out rfl)
      obtain ⟨l1, x0, x1, x2, x3, x4, x5, x6, x7, x8⟩ := HasB.nine M1.out
      obtain ⟨l2, y0, y1, y2, y3, y4, y5⟩ := HasB.six M2.out
      go_wp2_with fail
      refine (fitsX_any c za zb zd ze zv _ HW.out HS.out.2.2.2.2 HS.out.1 HS.out.2.1 HS.out.2.2.1 HS.out.2.2.2.1).mono ?_
      rintro x w2 ⟨rfl, hb2⟩
      have HB2 : Hid (Below w.heap.size w w2) := Lib.hid (HB1.out.trans (hb2.mono HB1.out.size))
      have P1 := M1.out.below hb2 l1
      have P2 := M2.out.below hb2 l2
      obtain ⟨r, hr⟩ : ∃ r, r = fitsOf c za zb zd ze zv := ⟨_, rfl⟩
      rw [← hr]
      have HR := Lib.hid hr
      clear hb2 hr x0 x1 x2 x3 x4 x5 x6 x7 x8 y0 y1 y2 y3 y4 y5 l1 l2
      obtain ⟨l1, x0, x1, x2, x3, x4, x5, x6, x7, x8⟩ := HasB.nine P1
      obtain ⟨l2, y0, y1, y2, y3, y4, y5⟩ := HasB.six P2
      cases r with
      | false =>
        go_wp2_with fail
        rw [HPost.out]
        exact ⟨.inl ⟨by rw [HG.out]; exact HR.out.symm, rfl⟩, HB2.out⟩
      | true =>
        go_wp2_with fail
        rw [HPost.out]
        exact ⟨.inr ⟨by rw [HG.out]; exact HR.out.symm, w2.heap.size, HB2.out.size, rfl, ⟨HasB.new _ _ _, rfl, rfl⟩⟩, HB2.out.alloc HB2.out.size _⟩
  · rw [hc]
    have HG := Lib.hid (good_bad (s := ⟨za, zb, zd, ze, zv, zn⟩) hc)
    clear hc
    go_wp2_with fail
    rw [HPost.out]
    exact ⟨.inl ⟨HG.out, rfl⟩, HB1.out⟩
end Go.Proofs.Ytdbnadhmkfhdkaa
