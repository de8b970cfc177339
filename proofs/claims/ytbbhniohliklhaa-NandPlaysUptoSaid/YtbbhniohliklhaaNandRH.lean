/- nand: the reference: Program, the walk. -/
import Derived.Test.YtbbhniohliklhaaNandRG
import Derived.Deep.CutBlock
import Derived.Deep.DeepCutAuto
namespace Go.Proofs.Ytbbhniohliklhaa
open Go Go.RowKit
set_option linter.unusedVariables false

theorem exK_one (n p k : Nat) : exK n p (k + 1) = exK n p 1 := by funext i j; simp [exK]
/-- In the middle of chunk k: i bytes of the page are there. -/
structure MidX (S : Zone) (w : World) (g : Nat) (F : NF) (n p : Nat) (x : NB) (raw old : List Nat) (N k : Nat) (M' : RMem) (S' : Zone) (gx i : Nat) (wr : World) : Prop where
  rx : RefX M' S' wr g (F.progK n p x raw old (k + 1)) (exK n p (k + 1))
  le : S.le S'
  fresh : ∀ b, S' b → S b ∨ w.heap.size ≤ b
  live : S'.lives wr
  fr : Fr S w wr
  vs : M'.vs n p = .slice (some ⟨gx, 0, none⟩) N N
  row : wr.ownsRow 0 5 1 (.slice (some ⟨gx, 0, none⟩) N N) N (u8s (partTo raw old i))
  out : ¬ S' gx
  new : w.heap.size ≤ gx
theorem Fr.row {S : Zone} {w a b : World} {row : Option Nat} (h : Fr S w a) (hg : a.grownBy b row) (hr : ∀ k, row = some k → S k ∨ w.heap.size ≤ k) : Fr S w b :=
  ⟨hg.os.trans h.os, hg.tape.trans h.tape, hg.output.trans h.output, Nat.le_trans h.size hg.size, fun i hi hn => (hg.block i (Nat.lt_of_lt_of_le hi h.size) (fun e => by
    rcases hr i e.symm with q | q
    · exact hn q
    · omega)).trans (h.block i hi hn)⟩
/-- Behind k chunks. -/
structure PrX (S : Zone) (w : World) (g : Nat) (F : NF) (n p : Nat) (x : NB) (raw old : List Nat) (N k : Nat) (M' : RMem) (S' : Zone) (gx : Nat) (wr : World) : Prop where
  rx : RefX M' S' wr g (F.progK n p x raw old k) (exK n p k)
  le : S.le S'
  fresh : ∀ b, S' b → S b ∨ w.heap.size ≤ b
  live : S'.lives wr
  fr : Fr S w wr
  mid : 0 < k → M'.vs n p = .slice (some ⟨gx, 0, none⟩) N N ∧ wr.ownsRow 0 5 1 (.slice (some ⟨gx, 0, none⟩) N N) N (u8s (chunkTo raw old k)) ∧ ¬ S' gx ∧ w.heap.size ≤ gx
def PrI (S : Zone) (w : World) (g : Nat) (F : NF) (n p : Nat) (x : NB) (raw old : List Nat) (N k : Nat) (wr : World) : Prop := ∃ M' S' gx, PrX S w g F n p x raw old N k M' S' gx wr
/-- What the flash is when the page is told again. -/
theorem MidI.done {S : Zone} {w : World} {g : Nat} {F F' : NF} {n p : Nat} {x : NB} {raw old : List Nat} {N k : Nat} {wr' : World} (hx : F.bl[n]? = some x) (hpl : p < x.pages.length) (hl : S.lives w) (hrl : raw.length = N) (hol : old.length = N) (hN : 1 ≤ N) (hk : (k + 1) * 73 ≤ N)
    (M' : RMem) (S' : Zone) (gx : Nat) (h : RefX M' S' wr' g F' (exK n p (k + 1))) (hF : F'.bl = (F.progK n p x raw old (k + 1)).bl) (h2 : ∀ b, S' b → S b ∨ w.heap.size ≤ b) (h3 : S'.lives wr') (h4 : M'.vs n p = .slice (some ⟨gx, 0, none⟩) N N) (h5 : wr'.ownsRow 0 5 1 (.slice (some ⟨gx, 0, none⟩) N N) N (u8s (chunkTo raw old (k + 1)))) (h6 : w.heap.size ≤ gx) (hfr : Fr S w wr') (hg : F'.Good) : RefG (S.grow w wr') wr' g F' ∧ Fr S w wr' := by
  refine ⟨⟨⟨M', h.close (S' := S.grow w wr') (fun b hb => ?_) fun h0 y l hy hl' => ?_⟩, hl.grow hfr.size, hg⟩, hfr⟩
  · rcases h2 b hb with q | q
    · exact .inl q
    · exact .inr ⟨q, h3 b hb⟩
  · rw [hF, NF.progK_at hx] at hy
    obtain rfl := Option.some.inj hy
    have : (x.progK p raw old (k + 1)).pages[p]? = some (chunkTo raw old (k + 1)) := by
      unfold NB.progK
      rw [if_neg (by omega)]
      simp only [NB.prog]
      rw [List.getElem?_set_self hpl]
    rw [this] at hl'
    obtain rfl := Option.some.inj hl'
    have hlen := chunkTo_len (k := k + 1) hrl hol hk
    rw [h4]
    refine .inr ⟨by omega, by rw [hlen]; exact h5, fun b hb => ?_⟩
    simp [Value.ownBlock] at hb
    subst hb
    exact .inr ⟨h6, (h5.lt gx rfl).2⟩

theorem PrX.done {S S' : Zone} {w : World} {g gx : Nat} {F F' : NF} {n p : Nat} {x : NB} {raw old : List Nat} {N k : Nat} {M' : RMem} {wr wr' : World} (h : PrX S w g F n p x raw old N k M' S' gx wr) (hz : S g) (hx : F.bl[n]? = some x) (hpl : p < x.pages.length) (hl : S.lives w) (hrl : raw.length = N) (hol : old.length = N) (hN : 1 ≤ N) (hk : k * 73 ≤ N)
    (h1 : RefX M' S' wr' g F' (exK n p k)) (hF : F'.bl = (F.progK n p x raw old k).bl) (hgr : wr.grownBy wr' (some g)) (hg : F'.Good) : RefG (S.grow w wr') wr' g F' ∧ Fr S w wr' := by
  have hfr : Fr S w wr' := h.fr.trans' (Fr.grown hgr hz)
  have hlv : S'.lives wr' := fun b hb => Nat.lt_of_lt_of_le (h.live b hb) (Fr.grown hgr hz).size
  cases k with
  | zero =>
    rw [exK_zero] at h1
    refine ⟨⟨⟨M', h1.mono fun b hb => ?_⟩, hl.grow hfr.size, hg⟩, hfr⟩
    rcases h.fresh b hb with q | q
    · exact .inl q
    · exact .inr ⟨q, hlv b hb⟩
  | succ k =>
    obtain ⟨m1, m2, m3, m4⟩ := h.mid (by omega)
    refine MidI.done hx hpl hl hrl hol hN hk M' S' gx h1 hF h.fresh hlv m1 (m2.kept hgr (.inr fun e => m3 ?_)) m4 hfr hg
    have : gx = g := by simpa [Value.ownBlock] using e
    rw [this]; exact h.rx.zone.1

theorem partTo_zero (raw old : List Nat) : partTo raw old 0 = old := by simp [partTo]
theorem RefX.drew {M : RMem} {S : Zone} {w : World} {g : Nat} {F : NF} {ex : Nat → Nat → Bool} (h : RefX M S w g F ex) : RefX M S w.drew g F ex := h.same ⟨Nat.le_refl _, fun _ _ _ => rfl⟩
theorem MidX.put {S S' : Zone} {w wx : World} {g gx i : Nat} {F : NF} {n p : Nat} {x : NB} {raw old : List Nat} {N k : Nat} {M' : RMem} (h : MidX S w g F n p x raw old N k M' S' gx i wx) (hrl : raw.length = N) (hol : old.length = N) (hi : i < N) :
    MidX S w g F n p x raw old N k M' S' gx (i + 1) (wx.drew.setCell ⟨gx, i, none⟩ (.int .u8 (raw.getD i 0 : Nat))) := by
  have hg : wx.grownBy (wx.drew.setCell ⟨gx, i, none⟩ (.int .u8 (raw.getD i 0 : Nat))) (some gx) := gb_set (gb_drew (gb_refl _ _)) _ _
  have hr := (h.row.stored i (.int .u8 (raw.getD i 0 : Nat))).1
  rw [u8s_set, partTo_set hrl hol hi] at hr
  exact ⟨h.rx.same ⟨hg.size, fun b hb hl => hg.block b hl (fun e => h.out (by rw [← Option.some.inj e]; exact hb))⟩, h.le, h.fresh, fun b hb => Nat.lt_of_lt_of_le (h.live b hb) hg.size, h.fr.row hg (fun b e => by cases e; exact .inr h.new), h.vs, hr, h.out, h.new⟩
theorem MidX.next {S S' : Zone} {w wx : World} {g gx : Nat} {F : NF} {n p : Nat} {x : NB} {raw old : List Nat} {N k : Nat} {M' : RMem} (h : MidX S w g F n p x raw old N k M' S' gx ((k + 1) * 73) wx) : PrX S w g F n p x raw old N (k + 1) M' S' gx wx :=
  ⟨h.rx, h.le, h.fresh, h.live, h.fr, fun _ => ⟨h.vs, by have := h.row; rwa [partTo_chunk] at this, h.out, h.new⟩⟩
theorem MidX.startS {S S' : Zone} {w wr w2 : World} {g gx : Nat} {F : NF} {n p : Nat} {x : NB} {raw old : List Nat} {N j : Nat} {M' : RMem} (h : PrX S w g F n p x raw old N (j + 1) M' S' gx wr) (hx : F.bl[n]? = some x) (h2 : RefX M' S' w2 g (F.progK n p x raw old (j + 1)).tick (exK n p (j + 1))) (hg : wr.grownBy w2 (some g)) : MidX S w g F n p x raw old N (j + 1) M' S' gx ((j + 1) * 73) w2 := by
  obtain ⟨m1, m2, m3, m4⟩ := h.mid (by omega)
  have hzg := h.rx.zone.1
  refine ⟨?_, h.le, h.fresh, fun b hb => Nat.lt_of_lt_of_le (h.live b hb) hg.size, h.fr.row hg (fun b e => by cases e; exact h.fresh _ hzg), m1, ?_, m3, m4⟩
  · have := h2.chg (x.progK p raw old (j + 1)) ((x.progK p raw old (j + 1)).prog p (chunkTo raw old (j + 1 + 1))) (NF.progK_at hx p raw old (j + 1)) (by simp [NB.progK, NB.prog]) (by simp [NB.prog]) (by simp [NB.prog]) (by simp [NB.prog]) (fun i l hi hl => by
      simp only [NB.prog] at hl
      rwa [List.getElem?_set_ne (by omega)] at hl)
    rw [NF.progK_next, exK_one, ← exK_one n p (j + 1)] at this
    exact this
  · rw [partTo_chunk]
    refine m2.kept hg (.inr fun e => m3 ?_)
    have : gx = g := by simpa [Value.ownBlock] using e
    rw [this]; exact hzg
theorem MidX.start0 {S S' : Zone} {w wr w2 w4 w5 w6 : World} {g gx0 gx : Nat} {F : NF} {n p : Nat} {x : NB} {raw old : List Nat} {N : Nat} {M' : RMem} {vl' : Value} (h : PrX S w g F n p x raw old N 0 M' S' gx0 wr) (hx : F.bl[n]? = some x) (hn : x.next = (p : Int)) (h2 : RefX M' S' w2 g (F.progK n p x raw old 0).tick (exK n p 0)) (hg : wr.grownBy w2 (some g))
    (hgx : gx = w2.heap.size) (b4 : Below gx w2 w4) (hrow : w4.ownsRow gx 5 1 (.slice (some ⟨gx, 0, none⟩) N N) N (u8s old)) (b5 : Below w4.heap.size w4 w5)
    (a1 : w6.ownsRow 0 29 1 vl' (p + 1) (M'.row n p ++ [.slice (some ⟨gx, 0, none⟩) N N])) (a2 : w5.grownBy w6 (M'.vl n).ownBlock) (a3 : vl'.ownBlock = (M'.vl n).ownBlock ∨ vl'.ownBlock = some w5.heap.size) :
    ∃ M2 S2, MidX S w g F n p x raw old N 0 M2 S2 gx 0 (w6.setCell ⟨M'.gb, 4 * n, none⟩ vl') := by
  have hzg := h.rx.zone
  have l2 : S'.lives w2 := fun b hb => Nat.lt_of_lt_of_le (h.live b hb) hg.size
  have l5 : S'.lives w5 := fun b hb => Nat.lt_of_lt_of_le (l2 b hb) (Nat.le_trans b4.size b5.size)
  rw [exK_zero] at h2
  have h4 := h2.below (hgx ▸ b4)
  have h5 := h4.below b5
  have hat : vl'.ownBlock = (M'.vl n).ownBlock ∨ ∃ b, vl'.ownBlock = some b ∧ ¬ S' b := a3.imp id fun e => ⟨_, e, fun q => by have := l5 _ q; omega⟩
  have happ := h5.app n p x (x.prog p (chunkTo raw old 1)) hx hn (.slice (some ⟨gx, 0, none⟩) N N) (by simp [NB.prog]) rfl rfl rfl (fun j l hj hl => by
    simp only [NB.prog] at hl
    rwa [List.getElem?_set_ne (by omega)] at hl) vl' a1 a2 hat
  obtain ⟨C4, hC4⟩ := own_has hrow
  have hgl : gx < w4.heap.size := hC4.lt
  have hnS : ¬ S' gx := fun q => by have := l2 _ q; omega
  have hvl : ∀ b, (M'.vl n).ownBlock = some b → S' b := (h2.rows n x hx).2.1
  have hvgx : (M'.vl n).ownBlock ≠ some gx := fun e => hnS (hvl _ e)
  have hwg : w.heap.size ≤ gx := by rw [hgx]; exact Nat.le_trans h.fr.size hg.size
  have hvn : vl'.ownBlock ≠ some gx := by
    rcases a3 with e | e
    · rw [e]; exact hvgx
    · rw [e]; intro q; have := Option.some.inj q; have := b5.size; omega
  obtain ⟨CB, hCB5, -⟩ := h5.blk
  have hCB := hCB5.kept a2 (fun e => by
    obtain ⟨D, hD⟩ := h5.has hx _ e.symm
    exact hasB_ne hCB5 hD (by decide) rfl)
  have hfr6 : Fr S w w6 := by
    have f2 : Fr S w w2 := h.fr.row hg (fun b e => by cases e; exact h.fresh _ hzg.1)
    have f5 : Fr S w w5 := (f2.belowB b4 hwg).belowB b5 (Nat.le_of_lt (Nat.lt_of_le_of_lt hwg hgl))
    exact f5.row a2 (fun b e => h.fresh _ (hvl _ e))
  have hgb := h5.zone.2
  have happ' := happ
  rw [show (F.progK n p x raw old 0).tick.setB n (x.prog p (chunkTo raw old 1)) = F.progK n p x raw old (0 + 1) from NF.progK_next F n p x raw old 0] at happ'
  have r5 : w5.ownsRow gx 5 1 (.slice (some ⟨gx, 0, none⟩) N N) N (u8s old) := hrow.kept (row := none) ⟨b5.os, b5.tape, b5.output, b5.size, fun k hk _ => b5.block k hk⟩ (.inr (by simp [Value.ownBlock]))
  refine ⟨_, _, happ', fun b hb => .inl (h.le b hb), fun b hb => ?_, fun b hb => ?_, hfr6.row (gb_set (gb_refl _ _) _ _) (fun b e => by cases e; exact h.fresh _ hgb), by simp, ?_, ?_, hwg⟩
  · rcases hb with q | q
    · exact h.fresh b q
    · rcases a3 with e | e
      · exact h.fresh b (hvl b (by rw [← e]; exact q))
      · rw [e] at q; cases q; exact .inr (Nat.le_trans hwg (by have := b5.size; omega))
  · refine Nat.lt_of_lt_of_le (m := w6.heap.size) ?_ (gb_set (gb_refl w6 (some M'.gb)) (4 * n) vl').size
    rcases hb with q | q
    · exact Nat.lt_of_lt_of_le (l5 b q) a2.size
    · rcases a1.2 with ⟨q', _⟩ | ⟨g', cap, cur, e1, _, hh, _⟩
      · rw [q'] at q; simp [Value.ownBlock] at q
      · rw [e1] at q; simp [Value.ownBlock] at q
        rw [← q]; exact (show HasB w6 g' cur _ from hh).lt
  · have r6 := (r5.kept a2 (.inr fun e => hvgx (by simpa [Value.ownBlock] using e.symm)))
    rw [partTo_zero]
    exact own_setT (own_zero r6) hCB (by decide) _ _
  · rintro (q | q)
    · exact hnS q
    · exact hvn q

section
variable {M : RMem} {S : Zone} {g : Nat} {F : NF}
theorem rprog_out (n p : Int) (a : Option Addr) (len cap : Nat) (w : World) (h : RefX M S w g F noEx) (hn : n < 0 ∨ (F.bl.length : Int) ≤ n) :
    Calls Try.prog 35 #[.pointer (some ⟨g, 0, none⟩), .int .i64 n, .int .i64 p, .slice a len cap] w fun e w' => e = .returned (.int .i64 (F.mayE false false)) ∧ w = w' := by
  obtain ⟨-, -, -, c3, -⟩ := h.gcells
  have HI := Lib.hid (fun w (h : RefX M S w g F noEx) => ris_out n w h hn)
  have HH := Lib.hid h
  unfold NF.mayE
  generalize F.off = off at *
  clear h hn
  cases off with
  | true =>
    go_enter Try.func35, Try.ntmps35
    go_wp2_with fail
    go_ret
    exact ⟨rfl, rfl⟩
  | false =>
    go_enter Try.func35, Try.ntmps35
    go_wp2_with fail
    refine (HI.out _ HH.out).mono ?_
    rintro e w1 ⟨rfl, rfl⟩
    go_wp2_with fail
    go_ret
    exact ⟨rfl, rfl⟩
set_option maxRecDepth 100000 in
set_option maxHeartbeats 4000000 in
theorem rprog_err (n : Nat) (p : Int) (x : NB) (a : Option Addr) (len cap : Nat) (w : World) (h : RefX M S w g F noEx) (hx : F.bl[n]? = some x) (hg : F.Good) (hlen : len ≤ 1000000) (he : F.progE x p len ≠ 0) :
    Calls Try.prog 35 #[.pointer (some ⟨g, 0, none⟩), .int .i64 (n : Int), .int .i64 p, .slice a len cap] w fun e w' => e = .returned (.int .i64 (F.progE x p len)) ∧ w = w' := by
  obtain ⟨c0, -, c2, c3, -⟩ := h.gcells
  obtain ⟨-, -, -, b3⟩ := h.bcells hx
  have hn := lt_of_get hx
  have HI := Lib.hid (fun w (h : RefX M S w g F noEx) => ris_in n w h hn)
  have HHas := Lib.hid (fun w (h : RefX M S w g F noEx) => rhas_any n x w h hx hg.ok)
  have HNx := Lib.hid (fun w (h : RefX M S w g F noEx) => rnext_any n x w h hx hg)
  have HH := Lib.hid h
  have hb0 : (0 : Int) ≤ (n : Int) ∧ (n : Int) < (F.bl.length : Int) := by omega
  have hc1 := hg.c1
  have hc8 := hg.c8
  obtain ⟨N, hN⟩ : ∃ N, N = F.ch * 73 := ⟨_, rfl⟩
  have i1 : (F.ch : Int) * 73 = (N : Int) := by omega
  have hN2 : N ≤ 584 := by omega
  rw [Nat.mul_comm 4 n] at b3
  have hE : F.progE x p len = if F.off then 4 else if !(F.has x p && len == N) then 1 else if x.failed then 7 else if !(x.nextI == p) then 6 else 0 := by
    unfold NF.progE NF.mayE NB.nextI
    rw [← hN]
    cases h1 : F.off
    · cases h2 : (F.has x p && len == N)
      · simp
      · cases h3 : x.failed
        · have hp0 : 0 ≤ p := by
            have : F.has x p = true := by cases q : F.has x p; rw [q] at h2; simp at h2; rfl
            exact (NF.has_iff.1 this).1
          cases h4 : x.half
          · simp
          · have : ((-1 : Int) == p) = false := by simp; omega
            simp [this]
        · simp
    · simp
  have hhas := @NF.has_iff F x p
  generalize F.progE x p len = E at *
  generalize F.has x p = has at *
  generalize F.many x = m at *
  generalize x.nextI = nx at *
  generalize x.failed = fl at *
  generalize F.off = off at *
  generalize F.ch = ch at *
  generalize F.bl.length = L at *
  generalize M.gb = gb at *
  clear h hx hn hg hN
  cases off with
  | true =>
    obtain rfl : E = 4 := hE
    clear he hhas
    go_enter Try.func35, Try.ntmps35
    go_wp2_with fail
    go_ret
    exact ⟨rfl, rfl⟩
  | false =>
    simp only [Bool.false_eq_true, if_false] at hE
    by_cases q1 : p < 0
    · have hf : has = false := by cases has; rfl; have := (hhas.1 rfl).1; omega
      rw [hf] at hE
      obtain rfl : E = 1 := hE
      clear he hhas hf
      go_enter Try.func35, Try.ntmps35
      go_wp2_with fail
      refine (HI.out _ HH.out).mono ?_
      rintro e w1 ⟨rfl, rfl⟩
      go_wp2_with fail
      go_ret
      exact ⟨rfl, rfl⟩
    by_cases q2 : ((m : Nat) : Int) ≤ p
    · have hf : has = false := by cases has; rfl; have := (hhas.1 rfl).2; omega
      rw [hf] at hE
      obtain rfl : E = 1 := hE
      clear he hhas hf
      go_enter Try.func35, Try.ntmps35
      go_wp2_with fail
      refine (HI.out _ HH.out).mono ?_
      rintro e w1 ⟨rfl, rfl⟩
      go_wp2_with fail
      refine (HHas.out _ HH.out).mono ?_
      rintro e w1 ⟨rfl, rfl⟩
      go_wp2_with fail
      go_ret
      exact ⟨rfl, rfl⟩
    have ht : has = true := hhas.2 ⟨by omega, by omega⟩
    rw [ht] at hE
    clear hhas ht
    have q2' : ¬ (p ≥ ((m : Nat) : Int)) := by omega
    simp only [Bool.true_and] at hE
    by_cases q3 : len = N
    · subst q3
      simp only [beq_self_eq_true, Bool.not_true, Bool.false_eq_true, if_false] at hE
      cases fl with
      | true =>
        obtain rfl : E = 7 := hE
        clear he q2
        go_enter Try.func35, Try.ntmps35
        go_wp2_with fail
        refine (HI.out _ HH.out).mono ?_
        rintro e w1 ⟨rfl, rfl⟩
        go_wp2_with fail
        refine (HHas.out _ HH.out).mono ?_
        rintro e w1 ⟨rfl, rfl⟩
        go_wp2_with fail
        go_ret
        exact ⟨rfl, rfl⟩
      | false =>
        simp only [Bool.false_eq_true, if_false] at hE
        by_cases q4 : nx = p
        · rw [if_neg (by simp [q4])] at hE
          exact absurd hE he
        · rw [if_pos (by simp [q4])] at hE
          subst hE
          have q4a : (p == nx) = false := by simpa using fun e => q4 e.symm
          have q4b : (p != nx) = true := by simp [bne, q4a]
          clear he q2 q4
          go_enter Try.func35, Try.ntmps35
          go_wp2_with fail
          refine (HI.out _ HH.out).mono ?_
          rintro e w1 ⟨rfl, rfl⟩
          go_wp2_with fail
          refine (HHas.out _ HH.out).mono ?_
          rintro e w1 ⟨rfl, rfl⟩
          go_wp2_with fail
          refine (HNx.out _ HH.out).mono ?_
          rintro e w1 ⟨rfl, rfl⟩
          go_wp2_with fail
          go_ret
          exact ⟨rfl, rfl⟩
    · rw [if_pos (by simp [q3])] at hE
      subst hE
      have q3a : ((len : Int) == (N : Int)) = false := by simp; omega
      have q3b : ((len : Int) != (N : Int)) = true := by simp [bne, q3a]
      clear he q2 q3
      go_enter Try.func35, Try.ntmps35
      go_wp2_with fail
      refine (HI.out _ HH.out).mono ?_
      rintro e w1 ⟨rfl, rfl⟩
      go_wp2_with fail
      refine (HHas.out _ HH.out).mono ?_
      rintro e w1 ⟨rfl, rfl⟩
      go_wp2_with fail
      go_ret
      exact ⟨rfl, rfl⟩
end
theorem own_slice {w : World} {base : Nat} {e : TypeId} {v : Value} {n : Nat} {xs : List Value} (h : w.ownsRow base e 1 v n xs) (hn : 0 < n) : ∃ g cap, v = .slice (some ⟨g, 0, none⟩) n cap := by
  rcases h.2 with ⟨_, q⟩ | ⟨g, cap, cur, rfl, _⟩
  · omega
  · exact ⟨g, cap, rfl⟩
theorem lit_cell (w : World) (v : Value) (T : TypeId) : ((w.alloc (.cells #[v] T)).drew).cell? ((⟨w.heap.size, 0, none⟩ : Addr).add 0) = some v := by
  have := (HasB.new w #[v] T).at 0
  exact this
theorem alloc_row_facts {w w6 : World} {o : Obj} {row : Option Nat} {b k : Nat} {v : Value} (hb : b < w.heap.size) (hc : w.cell? ⟨b, k, none⟩ = some v) (hf : w.frozen? ⟨b, k, none⟩ = false) (hg : ((w.alloc o).drew).grownBy w6 row) (hn : some b ≠ row) : w6.cell? ⟨b, k, none⟩ = some v ∧ w6.frozen? ⟨b, k, none⟩ = false := by
  have h1 : (w.alloc o).drew.heap[b]? = w.heap[b]? := Below.heap_alloc w o b hb
  have h2 : w6.heap[b]? = w.heap[b]? := (hg.block b (by show b < (w.alloc o).heap.size; simp; omega) hn).trans h1
  exact ⟨(World.cell?_of_block (w := w) (a := ⟨b, k, none⟩) h2).trans hc, (World.frozen?_of_block (w := w) (a := ⟨b, k, none⟩) h2).trans hf⟩
set_option maxRecDepth 100000 in
set_option maxHeartbeats 8000000 in
theorem rprog_go {M : RMem} {S : Zone} {g : Nat} {F : NF} (n p : Nat) (x : NB) (rb ro N rc : Nat) (raw : List Nat) (w : World) (h : RefX M S w g F noEx) (hl : S.lives w) (hx : F.bl[n]? = some x) (hp : p < x.pages.length) (hg : F.Good) (hhas : F.has x p = true) (hN : N = F.ch * 73)
    (hr : Bytes w (some ⟨rb, ro, none⟩) N raw) (ho : ¬ S rb) (hm : F.mayE x.failed true = 0) (hh : x.half = false) (hn : x.next = (p : Int)) :
    Calls Try.prog 35 #[.pointer (some ⟨g, 0, none⟩), .int .i64 (n : Int), .int .i64 (p : Int), .slice (some ⟨rb, ro, none⟩) N rc] w fun e w' => e = .returned (.int .i64 (F.progGo n p x raw (List.replicate N 255) F.ch 0).1) ∧ RefG (S.grow w w') w' g (F.progGo n p x raw (List.replicate N 255) F.ch 0).2 ∧ Fr S w w' := by
  obtain ⟨POST, hPOST⟩ : ∃ Q : Ending → World → Prop, Q = fun e w' => e = .returned (.int .i64 (F.progGo n p x raw (List.replicate N 255) F.ch 0).1) ∧ RefG (S.grow w w') w' g (F.progGo n p x raw (List.replicate N 255) F.ch 0).2 ∧ Fr S w w' := ⟨_, rfl⟩
  rw [← hPOST]
  have HPOST := Lib.hid hPOST
  clear hPOST
  have hoff : F.off = false := by unfold NF.mayE at hm; cases h : F.off <;> simp [h] at hm ⊢
  have hfl : x.failed = false := by unfold NF.mayE at hm; rw [hoff] at hm; cases h : x.failed <;> simp [h] at hm ⊢
  obtain ⟨c0, -, c2, c3, -⟩ := h.gcells
  obtain ⟨-, -, -, b3⟩ := h.bcells hx
  rw [hoff] at c3
  rw [hfl] at b3
  have hnl := lt_of_get hx
  have HI := Lib.hid (fun w (h : RefX M S w g F noEx) => ris_in n w h hnl)
  have HHas := Lib.hid (fun w (h : RefX M S w g F noEx) => rhas_any n x w h hx hg.ok)
  have HNx := Lib.hid (fun w (h : RefX M S w g F noEx) => by have := rnext_any n x w h hx hg; rwa [show x.nextI = (p : Int) by unfold NB.nextI; rw [hh, hn]; rfl] at this)
  have hq := NF.has_iff.1 hhas
  have hmn := F.many_le x
  have hnp := hg.np
  have hpm : (p : Int) ≤ 256 := by omega
  have hpl : ¬ ((p : Int) ≥ ((F.many x : Nat) : Int)) := by omega
  have hb0 : (0 : Int) ≤ (n : Int) ∧ (n : Int) < (F.bl.length : Int) := by omega
  have hc1 := hg.c1
  have hc8 := hg.c8
  have i1 : (F.ch : Int) * 73 = (N : Int) := by omega
  have hN2 : N ≤ 584 := by omega
  have hN1 : 73 ≤ N := by omega
  have HH := Lib.hid h
  have HL := Lib.hid hl
  have HX := Lib.hid hx
  have HPl := Lib.hid hp
  have HG := Lib.hid hg
  have HR := Lib.hid hr
  have HO := Lib.hid ho
  have HNn := Lib.hid hn
  obtain ⟨old, hold⟩ : ∃ old, old = List.replicate N 255 := ⟨_, rfl⟩
  have HOld := Lib.hid hold
  have HOl : Hid (old.length = N) := Lib.hid (by rw [hold]; simp)
  have HOc : Hid (∀ c ∈ old, c < 256) := Lib.hid (by rw [hold]; intro c hc; have := List.eq_of_mem_replicate hc; omega)
  have HRl : Hid (raw.length = N) := Lib.hid hr.1
  obtain ⟨ch, hch⟩ : ∃ ch, ch = F.ch := ⟨_, rfl⟩
  rw [← hch] at i1 c2 hc1 hc8
  have HCh := Lib.hid hch
  have HN2 : Hid (N = ch * 73) := Lib.hid (by rw [hch]; exact hN)
  rw [Nat.mul_comm 4 n] at b3
  have HP0 : Hid (PrI S w g F n p x raw old N 0 w) := Lib.hid ⟨M, S, 0, by rw [exK_zero]; exact h, fun _ q => q, fun _ q => .inl q, hl, Fr.refl _ _, fun q => by omega⟩
  have HE : Hid (F.progGo n p x raw old ch 0 = F.progGo n p x raw old (ch - 0) 0) := Lib.hid rfl
  have HGd : Hid (∀ m k, m + k = ch → (F.progGo n p x raw old m k).2.Good) := Lib.hid (by rw [hch]; exact hg.progGo hx (by omega) hn (by rw [hr.1]; exact hN) (by rw [HOl.out]; exact hN) hr.2.1 HOc.out)
  generalize F.many x = m at *
  obtain ⟨L, hLen⟩ : ∃ L, L = F.bl.length := ⟨_, rfl⟩
  rw [← hLen] at c0 hb0
  have HLen := Lib.hid hLen
  generalize M.gb = gb at *
  clear h hl hx hp hg hhas hr ho hm hh hn hN hoff hfl hnl hq hmn hnp hold hch hLen
  go_enter Try.func35, Try.ntmps35
  go_wp2_with fail
  refine (HI.out _ HH.out).mono ?_
  rintro e w1 ⟨rfl, rfl⟩
  go_wp2_with fail
  refine (HHas.out _ HH.out).mono ?_
  rintro e w1 ⟨rfl, rfl⟩
  go_wp2_with fail
  refine (HNx.out _ HH.out).mono ?_
  rintro e w1 ⟨rfl, rfl⟩
  go_wp2_with fail
  clear c0 c2 c3 b3 HI HHas HNx
  go_loopw [9] (fun i wr => ∃ k : Nat, k ≤ ch ∧ i = .int .i64 (k : Int) ∧ Hid (PrI S w g F n p x raw old N k wr) ∧ Hid (F.progGo n p x raw old ch 0 = F.progGo n p x raw old (ch - k) k)) (fun i _ => ch - (intOf i).toNat)
  case atStart => exact ⟨0, Nat.zero_le _, rfl, HP0, HE⟩
  case round =>
    clear HP0 HE
    obtain ⟨k, hk, rfl, HP, HE⟩ := hrel
    obtain ⟨wo, rfl⟩ : ∃ wo : World, wo = wr := ⟨_, rfl⟩
    obtain ⟨M', S', gx, hpx⟩ := HP.out
    have HPx := Lib.hid hpx
    obtain ⟨c0, -, c2, -⟩ := hpx.rx.gcells
    rw [(F.progK_ch n p x raw old k).1, ← HCh.out] at c2
    rw [(F.progK_ch n p x raw old k).2.2, ← HLen.out] at c0
    have hpn : (F.progK n p x raw old k).armed = (F.ticks k).armed := NF.progK_armed F n p x raw old k
    have hta := NF.ticks_armed HG.out.a0 HG.out.a1 k
    have HRx := Lib.hid hpx.rx
    clear hpx HP
    by_cases hlt : k < ch
    · have hlt' : (k : Int) < (ch : Int) := by omega
      by_cases ha : (F.ticks k).armed = 1
      · have HA := Lib.hid (hpn.trans ha)
        have HE2 : Hid (F.progGo n p x raw old ch 0 = (4, (F.progK n p x raw old k).cut)) := Lib.hid (by
          rw [HE.out, show ch - k = (ch - k - 1) + 1 by omega, NF.progGo, if_pos ha])
        clear hpn hta ha HE
        go_wp2_with fail
        refine (rstep_cut _ HRx.out HA.out).mono ?_
        rintro e w2 ⟨rfl, hf2, hg2⟩
        have HF2 := Lib.hid hf2
        have HG2 := Lib.hid hg2
        clear hf2 hg2
        go_wp2_with fail
        rw [HPOST.out]
        rw [← HOld.out, ← HCh.out, HE2.out]
        have hgd : (F.progK n p x raw old k).cut.Good := by
          have := HGd.out ch 0 rfl
          rw [HE2.out] at this
          exact this
        exact ⟨rfl, HPx.out.done HH.out.zone.1 HX.out HPl.out HL.out HRl.out HOl.out (by omega) (by have := HN2.out; have := Nat.mul_le_mul_right 73 hk; omega) HF2.out rfl HG2.out hgd⟩
      · have HA := Lib.hid (show ¬ (F.progK n p x raw old k).armed = 1 by rw [hpn]; exact ha)
        have HA2 := Lib.hid (show 0 ≤ (F.progK n p x raw old k).armed ∧ (F.progK n p x raw old k).armed ≤ 9223372036854775807 by rw [hpn]; exact hta)
        have HE2 : Hid (F.progGo n p x raw old ch 0 = F.progGo n p x raw old (ch - (k + 1)) (k + 1)) := Lib.hid (by
          rw [HE.out, show ch - k = (ch - (k + 1)) + 1 by omega, NF.progGo, if_neg ha])
        clear hpn hta ha HE
        go_wp2_with fail
        refine (rstep_yes _ HRx.out HA2.out.1 HA2.out.2 HA.out).mono ?_
        rintro e w2 ⟨rfl, hf2, hg2⟩
        have HF2 := Lib.hid hf2
        have HG2 := Lib.hid hg2
        clear hf2 hg2 c0 c2 HRx HA HA2
        obtain ⟨kk, hkk⟩ : ∃ kk, kk = k * 73 := ⟨_, rfl⟩
        obtain ⟨k2, hk2⟩ : ∃ k2, k2 = kk + 73 := ⟨_, rfl⟩
        have HKk := Lib.hid hkk
        have HK2 := Lib.hid (show k2 = kk + 73 from hk2)
        have HK3 : Hid (k2 = (k + 1) * 73 ∧ k2 ≤ N) := Lib.hid (by
          have := HN2.out; omega)
        clear hkk hk2
        go_upto_if 67 with fail
        go_cut [] (fun wx => Hid (∃ M2 S2 gy, MidX S w g F n p x raw old N k M2 S2 gy kk wx))
        case first =>
          by_cases hk0 : k = 0
          · have q0 : ((k : Int) == 0) = true := by simp [hk0]
            obtain ⟨c0, -, c2, -⟩ := HF2.out.gcells
            rw [show (F.progK n p x raw old k).tick.ch = (F.progK n p x raw old k).ch from rfl, (F.progK_ch n p x raw old k).1, ← HCh.out] at c2
            have HK0 := Lib.hid hk0
            clear hk0 c0
            go_wp2_with (at_make; refine Stop.mk ?_)
            refine Stop.go ?_
            refine wpList_make_u8 rfl _ _ 29 rfl w2.heap.size 5 Try.underlying29 Try.infoU8 N rfl rfl (by omega) (Nat.le_refl _) ?_
            intro w3 hown2 hg3
            have HB2 : Hid (Below w2.heap.size w2 w3) := Lib.hid ((Below.refl _ _).grown hg3 (Nat.le_refl _) (fun k hk => by simp at hk))
            rw [← ffTo_zero N] at hown2
            have HO2 := Lib.hid hown2
            obtain ⟨gn, hgn⟩ : ∃ gn, gn = w2.heap.size := ⟨_, rfl⟩
            have HGn := Lib.hid hgn
            rw [← hgn] at HO2 HB2 ⊢
            clear hown2 hg3 hgn c2
            go_wp2_with fail
            go_loopw [11] (fun i wr => ∃ j : Nat, j ≤ N ∧ i = .int .i64 (j : Int) ∧ Hid (wr.ownsRow gn 5 1 (.slice (some ⟨gn, 0, none⟩) N N) N (u8s (ffTo N j))) ∧ Hid (Below gn w2 wr)) (fun i _ => N - (intOf i).toNat)
            case atStart => exact ⟨0, Nat.zero_le _, rfl, HO2, HB2⟩
            case round =>
              clear HO2 HB2
              obtain ⟨j, hj, rfl, HO, HB⟩ := hrel
              obtain ⟨w4, rfl⟩ : ∃ w4 : World, w4 = wr := ⟨_, rfl⟩
              by_cases hjl : j < N
              · have hjl' : (j : Int) < (N : Int) := by omega
                have hj0 : (0 : Int) ≤ (j : Int) ∧ (j : Int) < (N : Int) := by omega
                have hst := (HO.out.stored j (.int .u8 ((255 : Nat) : Int))).1
                rw [u8s_set, ffTo_set N j hjl] at hst
                have hck : w4.cell? ⟨gn, j, none⟩ = some (.int .u8 (((ffTo N j).getD j 0 : Nat) : Int)) := by
                  rw [HO.out.cellAt j (by omega)]
                  have : j < (ffTo N j).length := by rw [ffTo_len N j hj]; exact hjl
                  simp [u8s, List.getD, this]
                have hfr := HO.out.frozenAt j
                have HO3 : Hid ((w4.setCell ⟨gn, j, none⟩ (.int .u8 255)).ownsRow gn 5 1 (.slice (some ⟨gn, 0, none⟩) N N) N (u8s (ffTo N (j + 1)))) := Lib.hid hst
                have HB3 : Hid (Below gn w2 (w4.setCell ⟨gn, j, none⟩ (.int .u8 255))) := Lib.hid (HB.out.setCell (p := ⟨gn, j, none⟩) (Nat.le_refl _) _)
                generalize (ffTo N j).getD j 0 = oldb at hck
                clear hst
                go_wp2_with fail
                go_roundw
                case rel => exact ⟨j + 1, by omega, by simp, HO3, HB3⟩
                case measure => simp [intOf]; omega
              · obtain rfl : j = N := by omega
                have hfin := HO.out
                rw [ffTo_all, ← HOld.out] at hfin
                have HFin := Lib.hid hfin
                have hrx4 := HF2.out.below (HGn.out ▸ HB.out)
                obtain ⟨c0, -⟩ := hrx4.gcells
                rw [show (F.progK n p x raw old k).tick.bl.length = (F.progK n p x raw old k).bl.length from rfl, (F.progK_ch n p x raw old k).2.2, ← HLen.out] at c0
                have hkat : (F.progK n p x raw old k).tick.bl[n]? = some x := by
                  have := F.progK_at HX.out p raw old k
                  rw [show x.progK p raw old k = x by unfold NB.progK; rw [if_pos HK0.out]] at this
                  exact this
                obtain ⟨b0, -⟩ := hrx4.bcells hkat
                have f0 := hrx4.bfree (4 * n)
                rw [Nat.mul_comm 4 n] at b0 f0
                obtain ⟨gb', hgb'⟩ : ∃ gb', gb' = M'.gb := ⟨_, rfl⟩
                obtain ⟨vl, hvl⟩ : ∃ vl, vl = M'.vl n := ⟨_, rfl⟩
                rw [← hgb'] at c0 b0 f0
                rw [← hvl] at b0
                have HGb := Lib.hid hgb'
                have HVl := Lib.hid hvl
                have HRx4 := Lib.hid hrx4
                rw [HK0.out, exK_zero, ← HK0.out] at HRx4
                have HKa := Lib.hid hkat
                clear hfin HO hrx4 hkat hgb' hvl
                have HW4 : Hid (w4.ownsRow 0 29 1 vl p (M'.row n p)) := Lib.hid (by
                  have := (HRx4.out.rows n x HKa.out).1
                  rw [HNn.out, Int.toNat_natCast, ← HVl.out] at this
                  exact this)
                have hpb : p ≤ 1000000 := by omega
                have HVb : Hid (∀ b, vl.ownBlock = some b → S' b) := Lib.hid (by
                  rw [HVl.out]; exact (HRx4.out.rows n x HKa.out).2.1)
                have HBk : Hid (gb' < w4.heap.size) := Lib.hid (by
                  obtain ⟨C, hC, -⟩ := HRx4.out.blk
                  rw [HGb.out]; exact hC.lt)
                have HNe : Hid (some gb' ≠ vl.ownBlock) := Lib.hid (by
                  obtain ⟨C, hC, -⟩ := HRx4.out.blk
                  intro e
                  rw [HVl.out] at e
                  obtain ⟨D, hD⟩ := HRx4.out.has HKa.out _ e.symm
                  rw [HGb.out] at hD
                  exact hasB_ne hC hD (by decide) rfl)
                obtain ⟨rowv, hrowv⟩ : ∃ rowv, rowv = M'.row n p := ⟨_, rfl⟩
                rw [← hrowv] at HW4
                have HRv := Lib.hid hrowv
                have b0a : (w4.alloc (Obj.cells #[Value.slice (some ⟨gn, 0, none⟩) j j] 29)).cell? ⟨gb', n * 4, none⟩ = some vl := (World.cell?_of_block (a := ⟨gb', n * 4, none⟩) (Below.heap_alloc w4 _ gb' HBk.out)).trans b0
                have c0a : (w4.alloc (Obj.cells #[Value.slice (some ⟨gn, 0, none⟩) j j] 29)).cell? ⟨g, 0, none⟩ = some (.slice (some ⟨gb', 0, none⟩) L L) := (World.cell?_of_block (a := ⟨g, 0, none⟩) (Below.heap_alloc w4 _ g HRx4.out.own.lt)).trans c0
                have HNg : Hid (some g ≠ vl.ownBlock) := Lib.hid (by
                  intro e
                  rw [HVl.out] at e
                  obtain ⟨D, hD⟩ := HRx4.out.has HKa.out _ e.symm
                  exact hasB_ne HRx4.out.own hD (by decide) rfl)
                have HGl : Hid (g < w4.heap.size) := Lib.hid HRx4.out.own.lt
                have fg := HRx4.out.gfree 0
                clear hrowv
                go_wp2_with fail
                go_region_law (refine step_appS rfl (.tmp 95) (.tmp 97) 65 rfl 29 Try.underlying65 Try.infoPg vl p rowv rfl (HW4.out.alloc _).drew ⟨w4.heap.size, 0, none⟩ 1 (.slice (some ⟨gn, 0, none⟩) j j) rfl (lit_cell _ _ _) rfl hpb ?_; intro vl2 w6 hown2 hgrow2 hat2; obtain ⟨g6, cap6, rfl⟩ := own_slice hown2 (Nat.succ_pos _); obtain ⟨b6, f6⟩ := alloc_row_facts HBk.out b0 f0 hgrow2 HNe.out; obtain ⟨c6, -⟩ := alloc_row_facts HGl.out c0 fg hgrow2 HNg.out; have HO2 := Lib.hid hown2; have HG3 := Lib.hid hgrow2; have HA2 := Lib.hid hat2; clear hown2 hgrow2 hat2)
                all_goals
                  have HFn : Hid (∃ M2 S2 gy, MidX S w g F n p x raw old j k M2 S2 gy kk (w6.setCell ⟨gb', n * 4, none⟩ (.slice (some ⟨g6, 0, none⟩) (p + 1) cap6))) := Lib.hid (by
                    obtain rfl : k = 0 := HK0.out
                    rw [HKk.out, HGb.out, Nat.mul_comm n 4]
                    obtain ⟨M2, S2, h⟩ := MidX.start0 HPx.out HX.out HNn.out HF2.out HG2.out HGn.out HB.out HFin.out (((Below.refl _ _).alloc (Nat.le_refl _) _).drew) (by rw [← HRv.out]; exact HO2.out) (by rw [← HVl.out]; exact HG3.out) (by rw [← HVl.out]; exact HA2.out)
                    exact ⟨M2, S2, _, h⟩)
                  clear b6 f6 c6 b0 f0 c0 b0a c0a fg HO2 HG3 HA2 HW4
                  go_wp2_with fail
                  go_meet
                  case rel => exact HFn
          · have q0 : ¬ (k : Int) = 0 := by omega
            have HM : Hid (MidX S w g F n p x raw old N k M' S' gx kk w2) := Lib.hid (by
              obtain ⟨j, rfl⟩ : ∃ j, k = j + 1 := ⟨k - 1, by omega⟩
              rw [HKk.out]
              exact MidX.startS HPx.out HX.out HF2.out HG2.out)
            clear hk0
            go_wp2_with fail
            go_meet
            case rel => exact Lib.hid ⟨_, _, _, HM.out⟩
        case rest =>
          obtain ⟨M2, S2, gy, hmid⟩ := hcut.out
          have HMid := Lib.hid hmid
          obtain ⟨wj, rfl⟩ : ∃ wj : World, wj = wc := ⟨_, rfl⟩
          clear hcut hmid HPx HF2 HG2
          obtain ⟨k1, hk1⟩ : ∃ k1, k1 = k + 1 := ⟨_, rfl⟩
          have HK1 := Lib.hid hk1
          have hkk := HKk.out
          have hk2 := HK2.out
          have hk3 := HK3.out.2
          have i2 : IntKind.i64.wrap ((k : Int) * 73) = (kk : Int) := by rw [wr64' _ (by omega) (by omega)]; omega
          have i3 : IntKind.i64.wrap ((k : Int) + 1) = (k1 : Int) := by rw [wr64' _ (by omega) (by omega)]; omega
          have i4 : IntKind.i64.wrap ((k1 : Int) * 73) = (k2 : Int) := by rw [wr64' _ (by omega) (by omega)]; omega
          have hNk : (k2 : Int) ≤ (N : Int) := by omega
          clear hkk hk2 hk3 hk1
          go_wp2_with fail
          go_loopw [12] (fun i wr => ∃ j : Nat, kk ≤ j ∧ j ≤ k2 ∧ i = .int .i64 (j : Int) ∧ Hid (MidX S w g F n p x raw old N k M2 S2 gy j wr)) (fun i _ => k2 - (intOf i).toNat)
          case atStart => exact ⟨kk, Nat.le_refl _, by have := HK2.out; omega, rfl, HMid⟩
          case round =>
            clear HMid
            obtain ⟨j, hj1, hj2, rfl, HMid⟩ := hrel
            obtain ⟨w5, rfl⟩ : ∃ w5 : World, w5 = wr := ⟨_, rfl⟩
            by_cases hjl : j < k2
            · have hjl' : (j : Int) < (k2 : Int) := by omega
              have hjN : j < N := by omega
              have t1 : (0 : Int) ≤ (j : Int) ∧ (j : Int) < (N : Int) := by omega
              have t2 : (0 : Int) ≤ (p : Int) ∧ (p : Int) < ((p + 1 : Nat) : Int) := by omega
              have hat := F.progK_at HX.out p raw old (k + 1)
              obtain ⟨c0, -⟩ := HMid.out.rx.gcells
              rw [(F.progK_ch n p x raw old (k + 1)).2.2, ← HLen.out] at c0
              obtain ⟨b0, -⟩ := HMid.out.rx.bcells hat
              rw [Nat.mul_comm 4 n] at b0
              obtain ⟨ho, -⟩ := HMid.out.rx.rows n _ hat
              have hnx : (x.progK p raw old (k + 1)).next.toNat = p + 1 := by simp [NB.progK, NB.prog]
              rw [hnx] at ho
              obtain ⟨gl, cl, hvl⟩ := own_slice ho (by omega)
              have hck := ho
              rw [hvl] at b0 hck
              have p0 := hck.cellAt p (by omega)
              rw [RMem.row_at _ _ _ _ (by omega), HMid.out.vs] at p0
              have o0 : w5.cell? ⟨gy, j, none⟩ = some (.int .u8 (((partTo raw old j).getD j 0 : Nat) : Int)) := by
                rw [HMid.out.row.cellAt j (by omega)]
                have : j < (partTo raw old j).length := by rw [partTo_len HRl.out HOl.out (by omega)]; exact hjN
                simp [u8s, List.getD, this]
              have f0 := HMid.out.row.frozenAt j
              have r0 : w5.cell? ⟨rb, ro + j, none⟩ = some (.int .u8 ((raw.getD j 0 : Nat) : Int)) := by
                obtain ⟨b', off', he, _, hc⟩ := (HR.out.fr HMid.out.fr (fun ad e => by cases e; exact HO.out)).2.2 (by omega)
                cases he
                exact hc j (by omega)
              have HPut := Lib.hid (HMid.out.put HRl.out HOl.out hjN)
              obtain ⟨gb2, hgb2⟩ : ∃ gb2, gb2 = M2.gb := ⟨_, rfl⟩
              rw [← hgb2] at c0 b0
              generalize (partTo raw old j).getD j 0 = ob at o0
              generalize raw.getD j 0 = nbv at r0 HPut
              obtain ⟨p1, hp1⟩ : ∃ p1, p1 = p + 1 := ⟨_, rfl⟩
              rw [← hp1] at b0 t2
              clear hat ho hnx hvl hck hgb2 hp1
              go_wp2_with fail
              go_still_tail 17, (by kernel_rfl)
              change wpList _ _ _ _ _ w5.drew
              go_wp2_with fail
              go_roundw
              case rel => exact ⟨j + 1, by omega, by omega, by simp, HPut⟩
              case measure => simp [intOf]; omega
            · obtain rfl : j = k2 := by omega
              have HNx : Hid (PrI S w g F n p x raw old N (k + 1) w5) := Lib.hid ⟨M2, S2, gy, by
                have := HMid.out
                rw [HK3.out.1] at this
                exact this.next⟩
              clear HMid
              go_wp2_with fail
              go_roundw
              case rel => exact ⟨k + 1, by omega, by rw [HK1.out], HNx, HE2⟩
              case measure => simp [intOf]; have := HK1.out; omega
    · obtain rfl : k = ch := by omega
      clear hpn hta
      have HE2 : Hid (F.progGo n p x raw old k 0 = (0, (F.progK n p x raw old k).done)) := Lib.hid (by
        rw [HE.out, show k - k = 0 by omega, NF.progGo])
      obtain ⟨-, -, -, -, -, -, c6, -⟩ := HRx.out.gcells
      have f6 := HRx.out.gfree 6
      have HD : Hid (RefX M' S' (wo.setCell ⟨g, 6, none⟩ (.int .i64 (IntKind.i64.wrap ((F.progK n p x raw old k).pr + 1)))) g (F.progK n p x raw old k).done (exK n p k)) := Lib.hid (HRx.out.setOwn 6 _ (by simp [NF.rcells, NF.done]) rfl)
      have HEnd : Hid (RefG (S.grow w (wo.setCell ⟨g, 6, none⟩ (.int .i64 (IntKind.i64.wrap ((F.progK n p x raw old k).pr + 1))))) (wo.setCell ⟨g, 6, none⟩ (.int .i64 (IntKind.i64.wrap ((F.progK n p x raw old k).pr + 1)))) g (F.progK n p x raw old k).done ∧ Fr S w (wo.setCell ⟨g, 6, none⟩ (.int .i64 (IntKind.i64.wrap ((F.progK n p x raw old k).pr + 1))))) := Lib.hid (by
        have hgd : (F.progK n p x raw old k).done.Good := by
          have := HGd.out k 0 rfl
          rw [HE2.out] at this
          exact this
        exact HPx.out.done HH.out.zone.1 HX.out HPl.out HL.out HRl.out HOl.out (by omega) (by have := HN2.out; omega) HD.out rfl (gb_set (gb_refl _ _) _ _) hgd)
      generalize (F.progK n p x raw old k).pr = pr at c6 HEnd
      obtain ⟨pr2, hpr2⟩ : ∃ pr2, pr2 = IntKind.i64.wrap (pr + 1) := ⟨_, rfl⟩
      rw [← hpr2] at HEnd
      have hs3 : wrap64 (pr + 1) = pr2 := by rw [hpr2, IntKind.wrap_i64]; unfold wrap64; omega
      clear HD HRx HPx HE hpr2
      go_wp2_with fail
      rw [HPOST.out, ← HOld.out, ← HCh.out, HE2.out]
      exact ⟨rfl, HEnd.out⟩
end Go.Proofs.Ytbbhniohliklhaa
