/- areas: AreasPlays: the walk. -/
import Derived.Test.YtdbnadhmkfhdkaaAreasY
namespace Go.Proofs.Ytdbnadhmkfhdkaa
open Go Go.RowKit
set_option linter.unusedVariables false

/-- What Set answers, and what is set behind it. -/
noncomputable def setE (c : Cfg) (s z : Stg) : Int := if s.dn = true then 22 else if goodOf c z = true then 0 else 1
noncomputable def setN (c : Cfg) (s z : Stg) : Stg := if s.dn = true then s else if goodOf c z = true then z else s
theorem Tab.set {w : World} {g : Nat} {c : Cfg} {s n : Stg} (h : Tab w g c s n) (z : Stg) (hwf : c.wf) (hck : checkOf c = 0) (hz : z.wf) :
    Calls Try.prog 16 #[.pointer (some ⟨g, 0, none⟩), .agg #[.int .i64 z.a, .int .i64 z.b, .int .i64 z.d, .int .i64 z.e, .int .u8 z.v, .bool z.dn]] w fun e w' => e = .returned (.int .i64 (setE c s z)) ∧ Tab w' g c (setN c s z) n ∧ w.grownBy w' (some g) := by
  have key : ∀ od om sz fi e w', SetR w g c s n z od om sz fi e w' → (∀ x, TabW w' g c x n od om sz fi → Tab w' g c x n) → e = .returned (.int .i64 (setE c s z)) ∧ Tab w' g c (setN c s z) n := by
    intro od om sz fi e w' hR hx
    rcases hR with ⟨h1, rfl, hT⟩ | ⟨h1, h2, rfl, hT⟩ | ⟨h1, h2, rfl, hT⟩
    · unfold setE setN; rw [if_pos h1, if_pos h1]; exact ⟨rfl, hx _ hT⟩
    · unfold setE setN; rw [if_neg (by rw [h1]; decide), if_neg (by rw [h2]; decide), if_neg (by rw [h1]; decide), if_neg (by rw [h2]; decide)]; exact ⟨rfl, hx _ hT⟩
    · unfold setE setN; rw [if_neg (by rw [h1]; decide), if_pos h2, if_neg (by rw [h1]; decide), if_pos h2]; exact ⟨rfl, hx _ hT⟩
  rcases h with h | h
  · refine (aset_any g c s n z _ _ _ _ w h hwf hck hz).mono ?_
    rintro e w' ⟨hR, hG⟩
    have := key _ _ _ _ _ _ hR (fun x hx => .inl hx)
    exact ⟨this.1, this.2, hG⟩
  · refine (aset_any g c s n z _ _ _ _ w h hwf hck hz).mono ?_
    rintro e w' ⟨hR, hG⟩
    have := key _ _ _ _ _ _ hR (fun x hx => .inr hx)
    exact ⟨this.1, this.2, hG⟩
theorem RTab.set {w : World} {g : Nat} {c : Cfg} {s n : Stg} (h : RTab w g c s n) (z : Stg) (hck : checkOf c = 0) (hz : z.wf) :
    Calls Try.prog 26 #[.pointer (some ⟨g, 0, none⟩), .agg #[.int .i64 z.a, .int .i64 z.b, .int .i64 z.d, .int .i64 z.e, .int .u8 z.v, .bool z.dn]] w fun e w' => e = .returned (.int .i64 (setE c s z)) ∧ RTab w' g c (setN c s z) n ∧ w.grownBy w' (some g) := by
  refine (rset_any g c s n z w h hck hz).mono ?_
  rintro e w' ⟨hR, hG⟩
  rcases hR with ⟨h1, rfl, hT⟩ | ⟨h1, h2, rfl, hT⟩ | ⟨h1, h2, rfl, hT⟩
  · unfold setE setN; rw [if_pos h1, if_pos h1]; exact ⟨rfl, hT, hG⟩
  · unfold setE setN; rw [if_neg (by rw [h1]; decide), if_neg (by rw [h2]; decide), if_neg (by rw [h1]; decide), if_neg (by rw [h2]; decide)]; exact ⟨rfl, hT, hG⟩
  · unfold setE setN; rw [if_neg (by rw [h1]; decide), if_pos h2, if_neg (by rw [h1]; decide), if_pos h2]; exact ⟨rfl, hT, hG⟩
theorem setN_ok {c : Cfg} {s z : Stg} (hs : s.wf ∧ goodOf c s = true) (hz : z.wf) : (setN c s z).wf ∧ goodOf c (setN c s z) = true := by
  unfold setN
  split
  · exact hs
  · split
    · exact ⟨hz, by assumption⟩
    · exact hs
theorem good_now {c : Cfg} {s : Stg} (hck : checkOf c = 0) (h : goodOf c s = true) : goodOf c (nowOf s) = true := by
  unfold nowOf
  split
  · exact h
  · exact zero_good hck
theorem now_wf {s : Stg} (h : s.wf) : (nowOf s).wf := by
  unfold nowOf
  split
  · exact h
  · exact Stg.zero_wf
theorem Tab.powerup {w : World} {g : Nat} {c : Cfg} {s n : Stg} (h : Tab w g c s n) (hwf : c.wf) (hs : s.wf) (hg : goodOf c (nowOf s) = true) :
    Calls Try.prog 18 #[.pointer (some ⟨g, 0, none⟩)] w fun e w' => UpR w c (nowOf s) e w' ∧ Below w.heap.size w w' := by
  rcases h with h | h <;> exact apowerup_any g c s n _ _ _ _ w h hwf hs hg
theorem i8_any (n : Int) (w : World) : Calls Try.prog 29 #[.int .i64 n] w fun e w' => e = .returned (.int .i64 (bits BinOp.and IntKind.i64 n 7)) ∧ w = w' := by
  go_enter Try.func29, Try.ntmps29
  go_wp2_with fail
  go_ret
  exact ⟨rfl, rfl⟩
theorem bits_i64 (o : BinOp) (x y : Int) : I64 (bits o IntKind.i64 x y) := by
  unfold bits
  simp only []
  rw [IntKind.wrap_i64]
  unfold I64
  omega
theorem PlW.next {w0 w w' w2 : World} {g h g2 h2 : Nat} {c : Cfg} {s n s2 n2 : Stg} (k : PlW w0 g h c s n w) (hg2 : w.heap.size ≤ g2) (hT : Tab w' g2 c s2 n2) (hb : Below w.heap.size w w') (hh2 : w'.heap.size ≤ h2) (hR : RTab w2 h2 c s2 n2) (hb2 : Below w'.heap.size w' w2) : PlW w0 g2 h2 c s2 n2 w2 :=
  ⟨hT.below hb2, hR, (k.be.trans (hb.mono k.be.size)).trans (hb2.mono (Nat.le_trans k.be.size hb.size)), Nat.le_trans k.be.size hg2, Nat.le_trans (Nat.le_trans k.be.size hb.size) hh2, by have := hT.lt; omega⟩
/-- A slice of bools. -/
def BoolsA (w : World) (a : Option Addr) (len : Nat) (xs : List Bool) : Prop := Rws 1 (fun b : Bool => [Value.bool b]) w a len xs
theorem BoolsA.at {w wr : World} {a : Option Addr} {len : Nat} {xs : List Bool} (h : BoolsA w a len xs) (hb : Below w.heap.size w wr) (i : Nat) (hi : i < len) : ∃ b off, a = some ⟨b, off, none⟩ ∧ wr.cell? ⟨b, off + i, none⟩ = some (.bool (xs.getD i false)) := by
  obtain ⟨h1, h2⟩ := h
  obtain ⟨b, off, he, hlt, hc⟩ := h2 (by omega)
  refine ⟨b, off, he, ?_⟩
  have := hc i xs[i] (List.getElem?_eq_getElem (by omega)) 0 (by omega)
  rw [hb.cell (p := ⟨b, _, none⟩) hlt]
  simpa [List.getD, List.getElem?_eq_getElem (show i < xs.length by omega)] using this
section
variable {H : Type} {enc : TypeId × Value → H} {P : Program}
theorem open_boolsA {w : World} {r : Reach} {b0 : Nat} {t e : TypeId} {v : Value} {d : DataW H} {ps : List MemPlace} (ht : P.underlying t = some (.slice e)) (he : P.underlying e = some .bool) (hsz : P.cellsOf e = 1)
    (hval : Value.okWide P w r b0 t v) (hd : DataW.Trod enc P w 0 (fun _ => true) true t v d ps) :
    ∃ a len cap xs, v = .slice a len cap ∧ len ≤ cap ∧ cap ≤ maxLen ∧ (a = none → cap = 0) ∧ BoolsA w a len xs := by
  obtain ⟨a, len, cap, xs, h1, h2, h3, h4, h5, _⟩ := open_rows (cf := fun b : Bool => [Value.bool b]) (wf := fun _ => True) ht hsz (by omega) (fun _ => rfl) (fun n cs y h => by
    obtain ⟨m, h1, _⟩ := DataW.trod_bool he h
    exact ⟨m, h1, trivial⟩) hval hd
  exact ⟨a, len, cap, xs, h1, h2, h3, h4, h5⟩
end

set_option maxRecDepth 100000 in
set_option maxHeartbeats 8000000 in
theorem aplays_any (c : Cfg) (s0 : Stg) (a : Option Addr) (len cap : Nat) (l : List Stg) (ua : Option Addr) (ulen ucap : Nat) (us : List Bool) (area sector place : Int) (w : World) (hwf : c.wf) (hs : s0.wf) (hl : Rws 6 Stg.cells w a len l) (hlw : ∀ x ∈ l, x.wf) (hcap : len ≤ cap) (hcm : cap ≤ maxLen) (hu : BoolsA w ua ulen us) (hucap : ulen ≤ ucap) (hucm : ucap ≤ maxLen) (h1 : I64 area) (h2 : I64 sector) (h3 : I64 place) :
    Calls Try.prog 6 #[.agg #[.int .i64 c.blocks, .int .i64 c.pages, .int .i64 c.sector, .int .i64 c.user, .int .i64 c.boot, .int .i64 c.rpa, .int .i64 c.group, .int .i64 c.cache, .int .i64 c.spare], .agg #[.int .i64 s0.a, .int .i64 s0.b, .int .i64 s0.d, .int .i64 s0.e, .int .u8 s0.v, .bool s0.dn], .slice a len cap, .slice ua ulen ucap, .int .i64 area, .int .i64 sector, .int .i64 place] w fun e w' => e = .returned (.bool true) ∧ Below w.heap.size w w' := by
  obtain ⟨POST, hPOST⟩ : ∃ Q : Ending → World → Prop, Q = fun e w' => e = .returned (.bool true) ∧ Below w.heap.size w w' := ⟨_, rfl⟩
  rw [← hPOST]
  have HPOST := Lib.hid hPOST
  have HW := Lib.hid hwf
  have HS := Lib.hid hs
  have HL := Lib.hid hl
  have HLw := Lib.hid hlw
  have HU := Lib.hid hu
  have H1 := Lib.hid h1
  have H2 := Lib.hid h2
  have H3 := Lib.hid h3
  unfold maxLen at hcm hucm
  obtain ⟨W, hW⟩ : ∃ W, W = (w.alloc (.cells #[.int .i64 c.blocks, .int .i64 c.pages, .int .i64 c.sector, .int .i64 c.user, .int .i64 c.boot, .int .i64 c.rpa, .int .i64 c.group, .int .i64 c.cache, .int .i64 c.spare] 23)).alloc (.cells #[.int .i64 s0.a, .int .i64 s0.b, .int .i64 s0.d, .int .i64 s0.e, .int .u8 s0.v, .bool s0.dn] 36) := ⟨_, rfl⟩
  have N1 : Hid (HasB W w.heap.size #[.int .i64 c.blocks, .int .i64 c.pages, .int .i64 c.sector, .int .i64 c.user, .int .i64 c.boot, .int .i64 c.rpa, .int .i64 c.group, .int .i64 c.cache, .int .i64 c.spare] 23 ∧ HasB W (w.heap.size + 1) #[.int .i64 s0.a, .int .i64 s0.b, .int .i64 s0.d, .int .i64 s0.e, .int .u8 s0.v, .bool s0.dn] 36 ∧ Below w.heap.size w W) := Lib.hid (by
    rw [hW]
    exact ⟨(HasB.new w _ _).alloc _, HasB.new' (by simp) _ _, ((Below.refl _ _).alloc (Nat.le_refl _) _).alloc (by simp) _⟩)
  have HWe := Lib.hid hW
  clear hPOST hwf hs hl hlw hu h1 h2 h3 hW
  go_enter Try.func6, Try.ntmps6
  go_wp2_with fail
  rw [← HWe.out]
  refine (aknown_any W).mono ?_
  rintro e w1 ⟨rfl, hb1⟩
  have M1 : Hid (HasB w1 w.heap.size #[.int .i64 c.blocks, .int .i64 c.pages, .int .i64 c.sector, .int .i64 c.user, .int .i64 c.boot, .int .i64 c.rpa, .int .i64 c.group, .int .i64 c.cache, .int .i64 c.spare] 23 ∧ HasB w1 (w.heap.size + 1) #[.int .i64 s0.a, .int .i64 s0.b, .int .i64 s0.d, .int .i64 s0.e, .int .u8 s0.v, .bool s0.dn] 36 ∧ Below w.heap.size w w1) := Lib.hid ⟨N1.out.1.below hb1 N1.out.1.lt, N1.out.2.1.below hb1 N1.out.2.1.lt, N1.out.2.2.trans (hb1.mono N1.out.2.2.size)⟩
  clear hb1 N1 HWe
  by_cases h100 : 100 < len
  · have t1 : (100 : Int) < (len : Int) := by omega
    go_wp2_with fail
    rw [HPOST.out]
    exact ⟨rfl, M1.out.2.2⟩
  have t1 : ¬ (100 : Int) < (len : Int) := by omega
  obtain ⟨l1, x0, x1, x2, x3, x4, x5, x6, x7, x8⟩ := HasB.nine M1.out.1
  obtain ⟨l2, y0, y1, y2, y3, y4, y5⟩ := HasB.six M1.out.2.1
  go_wp2_with fail
  refine (anew_any c s0 _ HW.out HS.out).mono ?_
  rintro e w2 ⟨hR, hb2⟩
  have M2 : Hid (HasB w2 w.heap.size #[.int .i64 c.blocks, .int .i64 c.pages, .int .i64 c.sector, .int .i64 c.user, .int .i64 c.boot, .int .i64 c.rpa, .int .i64 c.group, .int .i64 c.cache, .int .i64 c.spare] 23 ∧ HasB w2 (w.heap.size + 1) #[.int .i64 s0.a, .int .i64 s0.b, .int .i64 s0.d, .int .i64 s0.e, .int .u8 s0.v, .bool s0.dn] 36 ∧ Below w.heap.size w w2) := Lib.hid ⟨M1.out.1.below hb2 M1.out.1.lt, M1.out.2.1.below hb2 M1.out.2.1.lt, M1.out.2.2.trans (hb2.mono M1.out.2.2.size)⟩
  clear x0 x1 x2 x3 x4 x5 x6 x7 x8 y0 y1 y2 y3 y4 y5 l1 l2 hb2 t1
  have HC : Hid (∀ w', Below w2.heap.size w2 w' → HasB w' w.heap.size #[.int .i64 c.blocks, .int .i64 c.pages, .int .i64 c.sector, .int .i64 c.user, .int .i64 c.boot, .int .i64 c.rpa, .int .i64 c.group, .int .i64 c.cache, .int .i64 c.spare] 23 ∧ HasB w' (w.heap.size + 1) #[.int .i64 s0.a, .int .i64 s0.b, .int .i64 s0.d, .int .i64 s0.e, .int .u8 s0.v, .bool s0.dn] 36) := Lib.hid (fun w' hb => ⟨M2.out.1.below hb M2.out.1.lt, M2.out.2.1.below hb M2.out.2.1.lt⟩)
  rcases hR with ⟨hg0, rfl⟩ | ⟨hg0, g, hg, rfl, hT⟩
  · have HG := Lib.hid hg0
    clear hg0
    go_wp2_with fail
    refine wp_region_held_drew (S := (fun w' => Below w2.heap.size w2 w')) (by kernel_rfl) ((Below.refl _ _).drew) (fun hHeld => ?_)
    refine held_take 0 (v := ?_) rfl (by kernel_rfl) (by kernel_rfl) (by kernel_rfl) (fun _ _ _ h => h) (by rfl) (fun w hS => ?_) (by assumption) ?_
    rotate_left
    · try dsimp only at hS
      obtain ⟨p1, p2⟩ := HC.out w hS
      obtain ⟨-, x0, x1, x2, x3, x4, x5, x6, x7, x8⟩ := HasB.nine p1
      obtain ⟨-, y0, y1, y2, y3, y4, y5⟩ := HasB.six p2
      go_simp <;> with_reducible rfl
    try simp only [Act.put, List.setIfInBounds_toArray, List.set_cons_zero, List.set_cons_succ]
    refine held_take 1 (v := ?_) rfl (by kernel_rfl) (by kernel_rfl) (by kernel_rfl) (fun _ _ _ h => h) (by rfl) (fun w hS => ?_) (by assumption) ?_
    rotate_left
    · try dsimp only at hS
      obtain ⟨p1, p2⟩ := HC.out w hS
      obtain ⟨-, x0, x1, x2, x3, x4, x5, x6, x7, x8⟩ := HasB.nine p1
      obtain ⟨-, y0, y1, y2, y3, y4, y5⟩ := HasB.six p2
      go_simp <;> with_reducible rfl
    try simp only [Act.put, List.setIfInBounds_toArray, List.set_cons_zero, List.set_cons_succ]
    refine held_one 2 rfl (by kernel_rfl) (fun K hK => ?_)
    go_simp
    refine Calls.mono (aof2_any s0 _) ?_
    rintro e w3 ⟨rfl, hb⟩
    have HB3 : Hid (Below w2.heap.size w2 w3) := Lib.hid ((Below.refl w2.heap.size w2).drew.trans hb)
    clear hb
    refine hK.out _ _ (fun w' => Below w2.heap.size w2 w') (fun _ h => h) HB3.out (fun hHeld => ?_)
    clear hK K
    try simp only [Act.put, List.setIfInBounds_toArray, List.set_cons_zero, List.set_cons_succ]
    refine held_one 3 rfl (by kernel_rfl) (fun K hK => ?_)
    go_simp
    refine Calls.mono (rnew_any c s0 _ HS.out) ?_
    rintro e w4 ⟨hR, hb⟩
    have HB4 : Hid (Below w2.heap.size w2 w4) := Lib.hid (HB3.out.trans (hb.mono HB3.out.size))
    clear hb
    obtain rfl : e = .returned (.tuple #[.pointer none, .int .i64 1]) := by rcases hR with ⟨-, q⟩ | ⟨q, -⟩; exact q; (exfalso; rw [HG.out] at q; cases q)
    clear hR
    refine hK.out _ _ (fun w' => Below w2.heap.size w2 w') (fun _ h => h) HB4.out (fun hHeld => ?_)
    clear hK K
    try simp only [Act.put, List.setIfInBounds_toArray, List.set_cons_zero, List.set_cons_succ]
    refine held_take 4 (v := ?_) rfl (by kernel_rfl) (by kernel_rfl) (by kernel_rfl) (fun _ _ _ h => h) (by rfl) (fun w hS => ?_) (by assumption) ?_
    rotate_left
    · try dsimp only at hS
      go_simp <;> with_reducible rfl
    try simp only [Act.put, List.setIfInBounds_toArray, List.set_cons_zero, List.set_cons_succ]
    refine held_take 5 (v := ?_) rfl (by kernel_rfl) (by kernel_rfl) (by kernel_rfl) (fun _ _ _ h => h) (by rfl) (fun w hS => ?_) (by assumption) ?_
    rotate_left
    · try dsimp only at hS
      go_simp <;> with_reducible rfl
    try simp only [Act.put, List.setIfInBounds_toArray, List.set_cons_zero, List.set_cons_succ]
    refine held_take 6 (v := ?_) rfl (by kernel_rfl) (by kernel_rfl) (by kernel_rfl) (fun _ _ _ h => h) (by rfl) (fun w hS => ?_) (by assumption) ?_
    rotate_left
    · try dsimp only at hS
      go_simp <;> with_reducible rfl
    try simp only [Act.put, List.setIfInBounds_toArray, List.set_cons_zero, List.set_cons_succ]
    refine held_take 7 (v := ?_) rfl (by kernel_rfl) (by kernel_rfl) (by kernel_rfl) (fun _ _ _ h => h) (by rfl) (fun w hS => ?_) (by assumption) ?_
    rotate_left
    · try dsimp only at hS
      go_simp <;> with_reducible rfl
    try simp only [Act.put, List.setIfInBounds_toArray, List.set_cons_zero, List.set_cons_succ]
    refine held_take 8 (v := ?_) rfl (by kernel_rfl) (by kernel_rfl) (by kernel_rfl) (fun _ _ _ h => h) (by rfl) (fun w hS => ?_) (by assumption) ?_
    rotate_left
    · try dsimp only at hS
      go_simp <;> with_reducible rfl
    try simp only [Act.put, List.setIfInBounds_toArray, List.set_cons_zero, List.set_cons_succ]
    refine held_done (by kernel_rfl) ?_
    have HBf := Lib.hid (M2.out.2.2.trans (HB4.out.mono M2.out.2.2.size))
    go_wp2_with fail
    rw [HPOST.out]
    exact ⟨rfl, HBf.out⟩
  · have HG := Lib.hid hg0
    have HT2 := Lib.hid hT
    have HGg := Lib.hid hg
    have hck : checkOf c = 0 := by
      rcases checkOf_two c with q | q
      · exact q
      · rw [good_bad q] at hg0; cases hg0
    have HCk := Lib.hid hck
    clear hg0 hT hg hck
    go_wp2_with fail
    refine wp_region_held_drew (S := (fun w' => Below w2.heap.size w2 w')) (by kernel_rfl) ((Below.refl _ _).drew) (fun hHeld => ?_)
    refine held_take 0 (v := ?_) rfl (by kernel_rfl) (by kernel_rfl) (by kernel_rfl) (fun _ _ _ h => h) (by rfl) (fun w hS => ?_) (by assumption) ?_
    rotate_left
    · try dsimp only at hS
      obtain ⟨p1, p2⟩ := HC.out w hS
      obtain ⟨-, x0, x1, x2, x3, x4, x5, x6, x7, x8⟩ := HasB.nine p1
      obtain ⟨-, y0, y1, y2, y3, y4, y5⟩ := HasB.six p2
      go_simp <;> with_reducible rfl
    try simp only [Act.put, List.setIfInBounds_toArray, List.set_cons_zero, List.set_cons_succ]
    refine held_take 1 (v := ?_) rfl (by kernel_rfl) (by kernel_rfl) (by kernel_rfl) (fun _ _ _ h => h) (by rfl) (fun w hS => ?_) (by assumption) ?_
    rotate_left
    · try dsimp only at hS
      obtain ⟨p1, p2⟩ := HC.out w hS
      obtain ⟨-, x0, x1, x2, x3, x4, x5, x6, x7, x8⟩ := HasB.nine p1
      obtain ⟨-, y0, y1, y2, y3, y4, y5⟩ := HasB.six p2
      go_simp <;> with_reducible rfl
    try simp only [Act.put, List.setIfInBounds_toArray, List.set_cons_zero, List.set_cons_succ]
    refine held_one 2 rfl (by kernel_rfl) (fun K hK => ?_)
    go_simp
    refine Calls.mono (aof2_any s0 _) ?_
    rintro e w3 ⟨rfl, hb⟩
    have HB3 : Hid (Below w2.heap.size w2 w3) := Lib.hid ((Below.refl w2.heap.size w2).drew.trans hb)
    clear hb
    refine hK.out _ _ (fun w' => Below w2.heap.size w2 w') (fun _ h => h) HB3.out (fun hHeld => ?_)
    clear hK K
    try simp only [Act.put, List.setIfInBounds_toArray, List.set_cons_zero, List.set_cons_succ]
    refine held_one 3 rfl (by kernel_rfl) (fun K hK => ?_)
    go_simp
    refine Calls.mono (rnew_any c s0 _ HS.out) ?_
    rintro e w4 ⟨hR, hb⟩
    have HB4 : Hid (Below w2.heap.size w2 w4) := Lib.hid (HB3.out.trans (hb.mono HB3.out.size))
    clear hb
    obtain ⟨h, hh, rfl, hRT⟩ : ∃ h, w3.heap.size ≤ h ∧ e = .returned (.tuple #[.pointer (some ⟨h, 0, none⟩), .int .i64 0]) ∧ RTab w4 h c s0 (nowOf s0) := by rcases hR with ⟨q, -⟩ | ⟨-, q⟩; (exfalso; rw [HG.out] at q; cases q); exact q
    have HRT := Lib.hid hRT
    have HHh := Lib.hid hh
    clear hR hRT hh
    refine hK.out _ _ (fun w' => Below w2.heap.size w2 w') (fun _ h => h) HB4.out (fun hHeld => ?_)
    clear hK K
    try simp only [Act.put, List.setIfInBounds_toArray, List.set_cons_zero, List.set_cons_succ]
    refine held_take 4 (v := ?_) rfl (by kernel_rfl) (by kernel_rfl) (by kernel_rfl) (fun _ _ _ h => h) (by rfl) (fun w hS => ?_) (by assumption) ?_
    rotate_left
    · try dsimp only at hS
      go_simp <;> with_reducible rfl
    try simp only [Act.put, List.setIfInBounds_toArray, List.set_cons_zero, List.set_cons_succ]
    refine held_take 5 (v := ?_) rfl (by kernel_rfl) (by kernel_rfl) (by kernel_rfl) (fun _ _ _ h => h) (by rfl) (fun w hS => ?_) (by assumption) ?_
    rotate_left
    · try dsimp only at hS
      go_simp <;> with_reducible rfl
    try simp only [Act.put, List.setIfInBounds_toArray, List.set_cons_zero, List.set_cons_succ]
    refine held_take 6 (v := ?_) rfl (by kernel_rfl) (by kernel_rfl) (by kernel_rfl) (fun _ _ _ h => h) (by rfl) (fun w hS => ?_) (by assumption) ?_
    rotate_left
    · try dsimp only at hS
      go_simp <;> with_reducible rfl
    try simp only [Act.put, List.setIfInBounds_toArray, List.set_cons_zero, List.set_cons_succ]
    refine held_take 7 (v := ?_) rfl (by kernel_rfl) (by kernel_rfl) (by kernel_rfl) (fun _ _ _ h => h) (by rfl) (fun w hS => ?_) (by assumption) ?_
    rotate_left
    · try dsimp only at hS
      go_simp <;> with_reducible rfl
    try simp only [Act.put, List.setIfInBounds_toArray, List.set_cons_zero, List.set_cons_succ]
    refine held_take 8 (v := ?_) rfl (by kernel_rfl) (by kernel_rfl) (by kernel_rfl) (fun _ _ _ h => h) (by rfl) (fun w hS => ?_) (by assumption) ?_
    rotate_left
    · try dsimp only at hS
      go_simp <;> with_reducible rfl
    try simp only [Act.put, List.setIfInBounds_toArray, List.set_cons_zero, List.set_cons_succ]
    refine held_done (by kernel_rfl) ?_
    have K0 : Hid (PlW w g h c s0 (nowOf s0) w4) := Lib.hid ⟨.inl (HT2.out.below HB4.out), HRT.out, M2.out.2.2.trans (HB4.out.mono M2.out.2.2.size), by have := M1.out.2.2.size; have := HGg.out; omega, by have := M2.out.2.2.size; have := HB3.out.size; have := HHh.out; omega, by have := HT2.out.lt; have := HB3.out.size; have := HHh.out; omega⟩
    have HOk : Hid (OkC c) := Lib.hid (check_zero HCk.out).1
    have HIn : Hid (s0.wf ∧ goodOf c s0 = true) := Lib.hid ⟨HS.out, HG.out⟩
    have HNw : Hid (NowOk c (nowOf s0)) := Lib.hid (now_ok HG.out)
    clear HC HT2 HRT HB3 HB4 HGg HHh M1 M2 HG HS
    go_wp2_with fail
    go_loopw [15, 17, 19] (fun x y i wr => ∃ (k g h : Nat) (s n : Stg), k ≤ len ∧ i = .int .i64 (k : Int) ∧ x = .pointer (some ⟨g, 0, none⟩) ∧ y = .pointer (some ⟨h, 0, none⟩) ∧ Hid (PlW w g h c s n wr) ∧ Hid (s.wf ∧ goodOf c s = true) ∧ Hid (NowOk c n)) (fun _ _ i _ => len - (intOf i).toNat)
    case atStart => exact ⟨0, g, h, s0, nowOf s0, by omega, rfl, rfl, rfl, K0, HIn, HNw⟩
    case round =>
      clear K0 HIn HNw
      obtain ⟨k, g, h, s, n, hk, rfl, rfl, rfl, KK, HI, HNo⟩ := hrel
      obtain ⟨wo, rfl⟩ : ∃ wo : World, wo = wr := ⟨_, rfl⟩
      by_cases hlt : k < len
      · obtain ⟨b, off, ha⟩ : ∃ b off, a = some ⟨b, off, none⟩ := by obtain ⟨b, off, e, _⟩ := HL.out.2 (by omega); exact ⟨b, off, e⟩
        subst ha
        obtain ⟨z, hz⟩ : ∃ z, l[k]? = some z := ⟨_, List.getElem?_eq_getElem (by have := HL.out.1; omega)⟩
        have HZw : Hid z.wf := Lib.hid (HLw.out z (List.mem_of_getElem? hz))
        have HSix := Lib.hid (fun wr hb => Stg.sixAt (wr := wr) HL.out hb hlt hz)
        have t2 : (k : Int) < (len : Int) := by omega
        have t3 : (0 : Int) ≤ (k : Int) ∧ (k : Int) < (len : Int) := by omega
        obtain ⟨E, hE⟩ : ∃ E, E = setE c s z := ⟨_, rfl⟩
        have HE := Lib.hid hE
        obtain ⟨s2, hs2⟩ : ∃ s2, s2 = setN c s z := ⟨_, rfl⟩
        have HS2 := Lib.hid hs2
        have HI2 : Hid (s2.wf ∧ goodOf c s2 = true) := Lib.hid (by rw [hs2]; exact setN_ok HI.out HZw.out)
        clear hz hE hs2 HI
        go_wp2_with fail
        refine wp_region_held_drew (S := (fun w' => Below w.heap.size w w')) (by kernel_rfl) (KK.out.drew.be) (fun hHeld => ?_)
        refine held_take 0 (v := ?_) rfl (by kernel_rfl) (by kernel_rfl) (by kernel_rfl) (fun _ _ _ h => h) (by rfl) (fun w hS => ?_) (by assumption) ?_
        rotate_left
        · try dsimp only at hS
          obtain ⟨e0, e1, e2, e3, e4, e5⟩ := HSix.out w hS
          go_simp <;> with_reducible rfl
        try simp only [Act.put, List.setIfInBounds_toArray, List.set_cons_zero, List.set_cons_succ]
        refine held_take 1 (v := ?_) rfl (by kernel_rfl) (by kernel_rfl) (by kernel_rfl) (fun _ _ _ h => h) (by rfl) (fun w hS => ?_) (by assumption) ?_
        rotate_left
        · try dsimp only at hS
          obtain ⟨e0, e1, e2, e3, e4, e5⟩ := HSix.out w hS
          go_simp <;> with_reducible rfl
        try simp only [Act.put, List.setIfInBounds_toArray, List.set_cons_zero, List.set_cons_succ]
        refine held_take 2 (v := ?_) rfl (by kernel_rfl) (by kernel_rfl) (by kernel_rfl) (fun _ _ _ h => h) (by rfl) (fun w hS => ?_) (by assumption) ?_
        rotate_left
        · try dsimp only at hS
          obtain ⟨e0, e1, e2, e3, e4, e5⟩ := HSix.out w hS
          go_simp <;> with_reducible rfl
        try simp only [Act.put, List.setIfInBounds_toArray, List.set_cons_zero, List.set_cons_succ]
        refine held_take 3 (v := ?_) rfl (by kernel_rfl) (by kernel_rfl) (by kernel_rfl) (fun _ _ _ h => h) (by rfl) (fun w hS => ?_) (by assumption) ?_
        rotate_left
        · try dsimp only at hS
          obtain ⟨e0, e1, e2, e3, e4, e5⟩ := HSix.out w hS
          go_simp <;> with_reducible rfl
        try simp only [Act.put, List.setIfInBounds_toArray, List.set_cons_zero, List.set_cons_succ]
        refine held_take 4 (v := ?_) rfl (by kernel_rfl) (by kernel_rfl) (by kernel_rfl) (fun _ _ _ h => h) (by rfl) (fun w hS => ?_) (by assumption) ?_
        rotate_left
        · try dsimp only at hS
          obtain ⟨e0, e1, e2, e3, e4, e5⟩ := HSix.out w hS
          go_simp <;> with_reducible rfl
        try simp only [Act.put, List.setIfInBounds_toArray, List.set_cons_zero, List.set_cons_succ]
        refine held_take 6 (v := ?_) rfl (by kernel_rfl) (by kernel_rfl) (by kernel_rfl) (fun _ _ _ h => h) (by rfl) (fun w hS => ?_) (by assumption) ?_
        rotate_left
        · try dsimp only at hS
          obtain ⟨e0, e1, e2, e3, e4, e5⟩ := HSix.out w hS
          go_simp <;> with_reducible rfl
        try simp only [Act.put, List.setIfInBounds_toArray, List.set_cons_zero, List.set_cons_succ]
        refine held_take 7 (v := ?_) rfl (by kernel_rfl) (by kernel_rfl) (by kernel_rfl) (fun _ _ _ h => h) (by rfl) (fun w hS => ?_) (by assumption) ?_
        rotate_left
        · try dsimp only at hS
          obtain ⟨e0, e1, e2, e3, e4, e5⟩ := HSix.out w hS
          go_simp <;> with_reducible rfl
        try simp only [Act.put, List.setIfInBounds_toArray, List.set_cons_zero, List.set_cons_succ]
        refine held_take 8 (v := ?_) rfl (by kernel_rfl) (by kernel_rfl) (by kernel_rfl) (fun _ _ _ h => h) (by rfl) (fun w hS => ?_) (by assumption) ?_
        rotate_left
        · try dsimp only at hS
          obtain ⟨e0, e1, e2, e3, e4, e5⟩ := HSix.out w hS
          go_simp <;> with_reducible rfl
        try simp only [Act.put, List.setIfInBounds_toArray, List.set_cons_zero, List.set_cons_succ]
        refine held_take 9 (v := ?_) rfl (by kernel_rfl) (by kernel_rfl) (by kernel_rfl) (fun _ _ _ h => h) (by rfl) (fun w hS => ?_) (by assumption) ?_
        rotate_left
        · try dsimp only at hS
          obtain ⟨e0, e1, e2, e3, e4, e5⟩ := HSix.out w hS
          go_simp <;> with_reducible rfl
        try simp only [Act.put, List.setIfInBounds_toArray, List.set_cons_zero, List.set_cons_succ]
        refine held_take 10 (v := ?_) rfl (by kernel_rfl) (by kernel_rfl) (by kernel_rfl) (fun _ _ _ h => h) (by rfl) (fun w hS => ?_) (by assumption) ?_
        rotate_left
        · try dsimp only at hS
          obtain ⟨e0, e1, e2, e3, e4, e5⟩ := HSix.out w hS
          go_simp <;> with_reducible rfl
        try simp only [Act.put, List.setIfInBounds_toArray, List.set_cons_zero, List.set_cons_succ]
        refine held_one 5 rfl (by kernel_rfl) (fun K hK => ?_)
        go_simp
        refine Calls.mono (KK.out.drew.tab.set z HW.out HCk.out HZw.out) ?_
        rintro e wa ⟨rfl, hT, hG⟩
        rw [← HE.out]
        rw [← HS2.out] at hT
        have HTa := Lib.hid hT
        have HRa := Lib.hid (KK.out.drew.ref.kept hG (fun e => KK.out.ne e.symm))
        have HBa := Lib.hid (below_gb KK.out.drew.be hG KK.out.drew.be.size KK.out.lg)
        clear hT hG
        refine hK.out _ _ (fun w' => Below w.heap.size w w') (fun _ h => h) HBa.out (fun hHeld => ?_)
        clear hK K
        try simp only [Act.put, List.setIfInBounds_toArray, List.set_cons_zero, List.set_cons_succ]
        refine held_one 11 rfl (by kernel_rfl) (fun K hK => ?_)
        go_simp
        refine Calls.mono (aof2_any z _) ?_
        rintro e wb ⟨rfl, hb⟩
        have HTb := Lib.hid (HTa.out.below hb)
        have HRb := Lib.hid (HRa.out.below hb)
        have HBb := Lib.hid (HBa.out.trans (hb.mono HBa.out.size))
        clear hb HTa HRa
        refine hK.out _ _ (fun w' => Below w.heap.size w w') (fun _ h => h) HBb.out (fun hHeld => ?_)
        clear hK K
        try simp only [Act.put, List.setIfInBounds_toArray, List.set_cons_zero, List.set_cons_succ]
        refine held_one 12 rfl (by kernel_rfl) (fun K hK => ?_)
        go_simp
        refine Calls.mono (HRb.out.set z HCk.out HZw.out) ?_
        rintro e wc ⟨rfl, hR, hG⟩
        rw [← HE.out]
        rw [← HS2.out] at hR
        have HTc : Hid (Tab wc g c s2 n) := Lib.hid (by rcases HTb.out with q | q; exact .inl (q.kept hG KK.out.ne); exact .inr (q.kept hG KK.out.ne))
        have Kc : Hid (PlW w g h c s2 n wc) := Lib.hid ⟨HTc.out, hR, below_gb HBb.out hG HBb.out.size KK.out.lh, KK.out.lg, KK.out.lh, KK.out.ne⟩
        clear hR hG HTb HRb HTc HBb HBa
        refine hK.out _ _ (fun w' => Below w.heap.size w w') (fun _ h => h) Kc.out.be (fun hHeld => ?_)
        clear hK K
        try simp only [Act.put, List.setIfInBounds_toArray, List.set_cons_zero, List.set_cons_succ]
        refine held_take 13 (v := ?_) rfl (by kernel_rfl) (by kernel_rfl) (by kernel_rfl) (fun _ _ _ h => h) (by rfl) (fun w hS => ?_) (by assumption) ?_
        rotate_left
        · try dsimp only at hS
          go_simp <;> with_reducible rfl
        try simp only [Act.put, List.setIfInBounds_toArray, List.set_cons_zero, List.set_cons_succ]
        refine held_take 14 (v := ?_) rfl (by kernel_rfl) (by kernel_rfl) (by kernel_rfl) (fun _ _ _ h => h) (by rfl) (fun w hS => ?_) (by assumption) ?_
        rotate_left
        · try dsimp only at hS
          go_simp <;> with_reducible rfl
        try simp only [Act.put, List.setIfInBounds_toArray, List.set_cons_zero, List.set_cons_succ]
        refine held_take 15 (v := ?_) rfl (by kernel_rfl) (by kernel_rfl) (by kernel_rfl) (fun _ _ _ h => h) (by rfl) (fun w hS => ?_) (by assumption) ?_
        rotate_left
        · try dsimp only at hS
          go_simp <;> with_reducible rfl
        try simp only [Act.put, List.setIfInBounds_toArray, List.set_cons_zero, List.set_cons_succ]
        refine held_take 16 (v := ?_) rfl (by kernel_rfl) (by kernel_rfl) (by kernel_rfl) (fun _ _ _ h => h) (by rfl) (fun w hS => ?_) (by assumption) ?_
        rotate_left
        · try dsimp only at hS
          go_simp <;> with_reducible rfl
        try simp only [Act.put, List.setIfInBounds_toArray, List.set_cons_zero, List.set_cons_succ]
        refine held_take 17 (v := ?_) rfl (by kernel_rfl) (by kernel_rfl) (by kernel_rfl) (fun _ _ _ h => h) (by rfl) (fun w hS => ?_) (by assumption) ?_
        rotate_left
        · try dsimp only at hS
          go_simp <;> with_reducible rfl
        try simp only [Act.put, List.setIfInBounds_toArray, List.set_cons_zero, List.set_cons_succ]
        refine held_take 18 (v := ?_) rfl (by kernel_rfl) (by kernel_rfl) (by kernel_rfl) (fun _ _ _ h => h) (by rfl) (fun w hS => ?_) (by assumption) ?_
        rotate_left
        · try dsimp only at hS
          go_simp <;> with_reducible rfl
        try simp only [Act.put, List.setIfInBounds_toArray, List.set_cons_zero, List.set_cons_succ]
        refine held_take 19 (v := ?_) rfl (by kernel_rfl) (by kernel_rfl) (by kernel_rfl) (fun _ _ _ h => h) (by rfl) (fun w hS => ?_) (by assumption) ?_
        rotate_left
        · try dsimp only at hS
          go_simp <;> with_reducible rfl
        try simp only [Act.put, List.setIfInBounds_toArray, List.set_cons_zero, List.set_cons_succ]
        refine held_one 20 rfl (by kernel_rfl) (fun K hK => ?_)
        go_simp
        refine Calls.mono (looks_any w g h c s2 n area sector place _ Kc.out HOk.out HNo.out H1.out H2.out H3.out) ?_
        rintro e wd ⟨rfl, hK⟩
        have Kd := Lib.hid hK
        clear hK Kc
        refine hK.out _ _ (fun w' => Below w.heap.size w w') (fun _ h => h) Kd.out.be (fun hHeld => ?_)
        clear hK K
        try simp only [Act.put, List.setIfInBounds_toArray, List.set_cons_zero, List.set_cons_succ]
        refine held_take 21 (v := ?_) rfl (by kernel_rfl) (by kernel_rfl) (by kernel_rfl) (fun _ _ _ h => h) (by rfl) (fun w hS => ?_) (by assumption) ?_
        rotate_left
        · try dsimp only at hS
          go_simp <;> with_reducible rfl
        try simp only [Act.put, List.setIfInBounds_toArray, List.set_cons_zero, List.set_cons_succ]
        refine held_take 22 (v := ?_) rfl (by kernel_rfl) (by kernel_rfl) (by kernel_rfl) (fun _ _ _ h => h) (by rfl) (fun w hS => ?_) (by assumption) ?_
        rotate_left
        · try dsimp only at hS
          go_simp <;> with_reducible rfl
        try simp only [Act.put, List.setIfInBounds_toArray, List.set_cons_zero, List.set_cons_succ]
        refine held_done (by kernel_rfl) ?_
        have KE := Lib.hid Kd.out
        clear Kd KK HSix HE HS2 HZw
        by_cases hul : k < ulen
        · obtain ⟨ub, uoff, hua, huc⟩ := HU.out.at KE.out.be k hul
          subst hua
          have t4 : (k : Int) < (ulen : Int) := by omega
          have t5 : (0 : Int) ≤ (k : Int) ∧ (k : Int) < (ulen : Int) := by omega
          cases hub : us.getD k false with
          | false =>
            rw [hub] at huc
            clear hub
            go_wp2_with fail
            go_roundw
            case rel => exact ⟨k + 1, g, h, s2, n, by omega, by go_num, rfl, rfl, KE, HI2, HNo⟩
            case measure => simp [intOf]; omega
          | true =>
            rw [hub] at huc
            clear hub
            go_wp2_with fail
            refine (KE.out.tab.powerup HW.out HI2.out.1 (good_now HCk.out HI2.out.2)).mono ?_
            rintro e wf ⟨⟨g2, hg2, rfl, hT⟩, hb⟩
            have HTf : Hid (Tab wf g2 c (nowOf s2) (nowOf s2)) := Lib.hid (.inl hT)
            have HGf := Lib.hid hg2
            have HBf := Lib.hid hb
            have HRf := Lib.hid (KE.out.ref.below hb)
            clear hT hg2 hb huc
            go_wp2_with fail
            refine (rpowerup_any h c s2 n wf HRf.out HI2.out.1 (good_now HCk.out HI2.out.2)).mono ?_
            rintro e wg ⟨⟨h2, hh2, rfl, hR⟩, hb⟩
            have KG : Hid (PlW w g2 h2 c (nowOf s2) (nowOf s2) wg) := Lib.hid (KE.out.next HGf.out HTf.out HBf.out hh2 hR hb)
            have HNw : Hid (NowOk c (nowOf s2)) := Lib.hid (now_ok HI2.out.2)
            have HI3 : Hid ((nowOf s2).wf ∧ goodOf c (nowOf s2) = true) := Lib.hid ⟨now_wf HI2.out.1, good_now HCk.out HI2.out.2⟩
            clear hR hb hh2 HTf HGf HBf HRf KE HNo
            go_wp2_with fail
            refine (looks_any w g2 h2 c (nowOf s2) (nowOf s2) area sector place wg KG.out HOk.out HNw.out H1.out H2.out H3.out).mono ?_
            rintro e wh ⟨rfl, hK⟩
            have KH := Lib.hid hK
            clear hK KG
            go_wp2_with fail
            go_roundw
            case rel => exact ⟨k + 1, g2, h2, nowOf s2, nowOf s2, by omega, by go_num, rfl, rfl, KH, HI3, HNw⟩
            case measure => simp [intOf]; omega
        · have t4 : ¬ (k : Int) < (ulen : Int) := by omega
          go_wp2_with fail
          go_roundw
          case rel => exact ⟨k + 1, g, h, s2, n, by omega, by go_num, rfl, rfl, KE, HI2, HNo⟩
          case measure => simp [intOf]; omega
      · obtain rfl : k = len := by omega
        have t2 : ¬ (k : Int) < (k : Int) := by omega
        go_wp2_with fail
        refine (looks_any w g h c s n area sector place wo KK.out HOk.out HNo.out H1.out H2.out H3.out).mono ?_
        rintro e w5 ⟨rfl, hK⟩
        have K5 := Lib.hid hK
        clear hK KK
        go_wp2_with fail
        refine (i8_any area w5).mono ?_
        rintro e w6 ⟨rfl, rfl⟩
        have H4 : Hid (I64 (bits BinOp.and IntKind.i64 area 7)) := Lib.hid (bits_i64 _ _ _)
        go_wp2_with fail
        refine (looks_any w g h c s n _ place sector w5 K5.out HOk.out HNo.out H4.out H3.out H2.out).mono ?_
        rintro e w7 ⟨rfl, hK⟩
        have K7 := Lib.hid hK
        clear hK K5
        go_wp2_with fail
        rw [HPOST.out]
        exact ⟨rfl, K7.out.be⟩
end Go.Proofs.Ytdbnadhmkfhdkaa
