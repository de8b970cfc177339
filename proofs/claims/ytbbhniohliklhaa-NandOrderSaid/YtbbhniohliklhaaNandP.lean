/- nand: NandOrder. -/
import Derived.Test.YtbbhniohliklhaaNandO
namespace Go.Proofs.Ytbbhniohliklhaa
open Go Go.RowKit
set_option linter.unusedVariables false

/-- One block, n pages of it programmed. -/
def OrdF (pages : Nat) (one : Bool) (n : Nat) (F : NF) : Prop :=
  F.off = false ∧ F.armed = 0 ∧ F.np = pages ∧ F.ch = 1 ∧ ∃ x, F.bl = [x] ∧ x.next = n ∧ x.half = false ∧ x.failed = false ∧ x.one = one
def hasP (pages : Nat) (one : Bool) : Nat := if one then pages / 2 else pages
theorem ord_new (pages : Nat) (one : Bool) : ((NF.new 1 pages 1).mode 0 one).1 = 0 ∧ OrdF pages one 0 ((NF.new 1 pages 1).mode 0 one).2 := by
  refine ⟨rfl, rfl, rfl, rfl, rfl, { NB.new pages with one := one }, rfl, rfl, rfl, rfl, rfl⟩
theorem ord_at {pages n : Nat} {one : Bool} {F : NF} (h : OrdF pages one n F) : ∃ x, F.at 0 = some x ∧ F.bl = [x] ∧ x.next = n ∧ x.half = false ∧ x.failed = false ∧ x.one = one := by
  obtain ⟨h1, h2, h3, h4, x, h5, r⟩ := h
  exact ⟨x, by unfold NF.at; rw [h5]; rfl, h5, r⟩
theorem ord_has {pages n : Nat} {one : Bool} {F : NF} (h : OrdF pages one n F) {x : NB} (hx : x.one = one) (t : Int) : F.has x t = (decide (0 ≤ t) && decide (t < (hasP pages one : Nat))) := by
  unfold NF.has NF.many hasP
  rw [hx, h.2.2.1]
theorem ord_prog {pages n : Nat} {one : Bool} {F : NF} (h : OrdF pages one n F) (t : Int) (raw : List Nat) (hr : raw.length = 73) :
    (t < 0 ∨ (hasP pages one : Int) ≤ t → F.prog 0 t raw = (1, F)) ∧ (0 ≤ t ∧ t < (hasP pages one : Nat) → t ≠ n → F.prog 0 t raw = (6, F)) ∧ (t = n → n < hasP pages one → (F.prog 0 t raw).1 = 0 ∧ OrdF pages one (n + 1) (F.prog 0 t raw).2) := by
  obtain ⟨x, ha, hb, hn, hh, hf, ho⟩ := ord_at h
  have hhas := ord_has h ho t
  obtain ⟨h1, h2, h3, h4, -⟩ := h
  unfold NF.prog
  rw [ha]
  dsimp only
  have hE : F.progE x t raw.length = if F.mayE false (F.has x t) ≠ 0 then F.mayE false (F.has x t) else if !(x.next == t) then 6 else 0 := by
    unfold NF.progE
    rw [hh, hf, h4, hr]
    simp
  rw [hE]
  refine ⟨fun q => ?_, fun q q2 => ?_, fun q q2 => ?_⟩
  · have : F.has x t = false := by
      rw [hhas]
      rcases q with q | q
      · simp; omega
      · simp; omega
    rw [this, show F.mayE false false = 1 by unfold NF.mayE; rw [h1]; rfl]
    simp
  · have : F.has x t = true := by rw [hhas]; simp [q.1, q.2]
    rw [this, show F.mayE false true = 0 by unfold NF.mayE; rw [h1]; rfl]
    have hne : (x.next == t) = false := by rw [hn]; simpa using fun e => q2 e.symm
    simp [hne]
  · have : F.has x t = true := by rw [hhas, q]; simp [q2]
    rw [this, show F.mayE false true = 0 by unfold NF.mayE; rw [h1]; rfl]
    have hne : (x.next == t) = true := by rw [hn]; simpa using q.symm
    simp only [hne, ne_eq, not_true_eq_false, if_false, Bool.not_true, Bool.false_eq_true]
    rw [h4]
    unfold NF.progGo
    rw [if_neg (by simp [NF.ticks, h2])]
    unfold NF.progGo
    refine ⟨rfl, ?_⟩
    refine ⟨h1, by simp [NF.done, NF.progK, NF.ticks, NF.tick, NF.setB, h2]; omega, h3, h4, x.prog t.toNat (chunkTo raw (F.raw []) 1), by simp [NF.done, NF.progK, NF.ticks, NF.tick, NF.setB, hb], ?_, hh, hf, ho⟩
    simp [NB.prog]; omega
theorem ord_next {pages n : Nat} {one : Bool} {F : NF} (h : OrdF pages one n F) : F.nextAt 0 = n := by
  obtain ⟨x, ha, hb, hn, hh, hf, ho⟩ := ord_at h
  unfold NF.nextAt NB.nextI
  rw [ha]
  dsimp only
  rw [hh, hn]; simp
theorem ord_mode {pages n : Nat} {one : Bool} {F : NF} (h : OrdF pages one n F) (o : Bool) : (F.mode 0 o).1 = if n = 0 then 0 else 6 := by
  obtain ⟨x, ha, hb, hn, hh, hf, ho⟩ := ord_at h
  unfold NF.mode NF.modeE NB.busy NF.mayE
  rw [ha]
  dsimp only
  rw [hh, hn, hf, h.1]
  by_cases q : n = 0
  · simp [q]
  · simp [q]

theorem norder_mode {B : Nat} {w0 : World} {S : Zone} {g : Nat} (pages : Nat) (one : Bool) (w : World) (h : Law B w0 S w g (NF.new 1 pages 1)) :
    Calls Try.prog 10 #[.pointer (some ⟨g, 0, none⟩), .int .i64 0, .bool one] w fun e w' => e = .returned (.int .i64 0) ∧ ∃ S F, Law B w0 S w' g F ∧ OrdF pages one 0 F := by
  have hm := fmode_any 0 one w h.fl
  rw [(ord_new pages one).1] at hm
  refine hm.mono ?_
  rintro e w' ⟨rfl, ho⟩
  exact ⟨rfl, _, _, h.op ho, (ord_new pages one).2⟩
/-- What the law keeps. -/
def OrdI (B : Nat) (w : World) (g gx : Nat) (pages : Nat) (one : Bool) (n : Nat) (wr : World) : Prop := n ≤ hasP pages one ∧ ∃ S F, Law B w S wr g F ∧ OrdF pages one n F ∧ BytesO S wr (some ⟨gx, 0, none⟩) 73 (List.replicate 73 0)

set_option maxRecDepth 100000 in
set_option maxHeartbeats 4000000 in
theorem norder_go (pages : Nat) (one : Bool) (a : Option Addr) (len cap : Nat) (zs : List Int) (w : World) (hi : Ints .i64 w a len zs) (h1 : 2 ≤ pages) (h2 : pages ≤ 256) (h3 : pages % 2 = 0) (h4 : len ≤ 600) :
    Calls Try.prog 3 #[.int .i64 (pages : Int), .bool one, .slice a len cap] w fun e w' => e = .returned (.bool true) ∧ Below w.heap.size w w' := by
  obtain ⟨POST, hPOST⟩ : ∃ Q : Ending → World → Prop, Q = fun e w' => e = .returned (.bool true) ∧ Below w.heap.size w w' := ⟨_, rfl⟩
  rw [← hPOST]
  have HPOST := Lib.hid hPOST
  clear hPOST
  have HI := Lib.hid hi
  clear hi
  have t1 : 2 ≤ (pages : Int) := by omega
  have t2 : (pages : Int) ≤ 256 := by omega
  have t3 : (pages : Int) % 2 = 0 := by omega
  have t4 : (len : Int) ≤ 600 := by omega
  have hnew := fun w => fnew_any 1 pages 1 w (by omega) (by omega) (by omega) (by omega) (by omega) (by omega) (by omega)
  have HNew := Lib.hid hnew
  obtain ⟨has, hhas⟩ : ∃ has, has = hasP pages one := ⟨_, rfl⟩
  have hh1 : has ≤ 256 := by rw [hhas]; unfold hasP; split <;> omega
  have HHas := Lib.hid hhas
  have hcase : (one = true ∧ (pages : Int) / 2 = (has : Int)) ∨ (one = false ∧ pages = has) := by
    cases one with
    | true => exact .inl ⟨rfl, by rw [hhas]; unfold hasP; rw [if_pos rfl]; omega⟩
    | false => exact .inr ⟨rfl, by rw [hhas]; unfold hasP; rw [if_neg (by decide)]⟩
  clear hnew h1 h2 h3 hhas
  rcases hcase with ⟨rfl, hc⟩ | ⟨rfl, rfl⟩
  · go_enter Try.func3, Try.ntmps3
    go_wp2_with fail
    refine (nknown_any _).mono ?_
    rintro e w1 ⟨rfl, hb⟩
    have HB := Lib.hid hb
    clear hb
    go_wp2_with fail
    refine (HNew.out _).mono ?_
    rintro e w2 ⟨⟨g, rfl, hg⟩, hb2⟩
    have HL := Lib.hid (Law.first HB.out hg hb2)
    have HI2 := Lib.hid (HI.out.below (HB.out.trans (hb2.mono HB.out.size)) (Nat.le_refl _))
    obtain ⟨S, hS⟩ : ∃ S : Zone, S = fun k => w1.heap.size ≤ k ∧ k < w2.heap.size := ⟨_, rfl⟩
    rw [← hS] at HL
    clear hg hb2 hS
    go_wp2_with fail
    refine (norder_mode _ _ _ HL.out).mono ?_
    rintro e w3 ⟨rfl, S3, F3, hL3, hO3⟩
    have HL3 := Lib.hid hL3
    have HO3 := Lib.hid hO3
    clear hL3 hO3 HL
    go_wp2_with (at_make; refine Stop.mk ?_)
    refine Stop.go ?_
    refine wpList_make_u8 rfl _ _ 29 rfl w3.heap.size 5 Try.underlying29 Try.infoU8 73 rfl rfl (by omega) (Nat.le_refl _) ?_
    intro w4 hown hg4
    have hb4 : Below w3.heap.size w3 w4 := (Below.refl _ _).grown hg4 (Nat.le_refl _) (fun k hk => by simp at hk)
    have hX := bytesO_made hown (by simp) HL3.out.fl.1.2
    have hL4 := HL3.out.below hb4
    have HI4 : Hid (Ints .i64 w4 a len zs) := Lib.hid (HI.out.below hL4.be (Nat.le_refl _))
    obtain ⟨gx, hgx⟩ : ∃ gx, gx = w3.heap.size := ⟨_, rfl⟩
    rw [← hgx] at hX ⊢
    have HO4 : Hid (OrdI w.heap.size w g gx pages _ 0 w4) := Lib.hid ⟨Nat.zero_le _, S3, F3, hL4, HO3.out, hX⟩
    clear hgx hX hL4 hown hg4 hb4 HL3 HO3 HI2
    clear HNew
    go_wp2_with fail
    go_loopw [11, 12] (fun n i wr => ∃ k m : Nat, k ≤ len ∧ i = .int .i64 (k : Int) ∧ n = .int .i64 (m : Int) ∧ m ≤ 256 ∧ Hid (OrdI w.heap.size w g gx pages _ m wr)) (fun _ i _ => len - (intOf i).toNat)
    case atStart => exact ⟨0, 0, Nat.zero_le _, rfl, rfl, by omega, HO4⟩
    case round =>
      clear HO4
      obtain ⟨k, m, hk, rfl, rfl, hm, HO⟩ := hrel
      obtain ⟨wo, rfl⟩ : ∃ wo : World, wo = wr := ⟨_, rfl⟩
      obtain ⟨hM, S5, F5, hL5, hO5, hX5⟩ := HO.out
      rw [← HHas.out] at hM
      have HM := Lib.hid hM
      have HL5 := Lib.hid hL5
      have HO5 := Lib.hid hO5
      have HX5 := Lib.hid hX5
      clear hM hL5 hO5 hX5 HO
      by_cases hlt : k < len
      · have hi5 := HI.out.below HL5.out.be (Nat.le_refl _)
        obtain ⟨b, off, rfl, hbl, hc⟩ := hi5.2 (by omega)
        have hck := hc k hlt
        obtain ⟨z, hz⟩ : ∃ z, z = zs.getD k 0 := ⟨_, rfl⟩
        rw [← hz] at hck
        have hlt' : (k : Int) < (len : Int) := by omega
        have hb0 : (0 : Int) ≤ (k : Int) ∧ (k : Int) < (len : Int) := by omega
        have hck6 : ∀ w', Below w.heap.size w w' → w'.cell? ⟨b, off + k, none⟩ = some (.int .i64 z) := fun w' hb' => by
          obtain ⟨b', off', e', hl', hc'⟩ := (HI.out.below hb' (Nat.le_refl _)).2 (by omega)
          cases e'
          rw [hz]
          exact hc' k hlt
        clear hi5 hc hz hbl
        obtain ⟨q1, q2, q3⟩ := ord_prog HO5.out z (List.replicate 73 0) (by simp)
        have hpr := fprog_any 0 z (some ⟨gx, 0, none⟩) 73 73 (List.replicate 73 0) wo HL5.out.fl HX5.out.1 HX5.out.out (by omega) (by omega)
        rw [← HHas.out] at q1 q2 q3
        have HQ3 := Lib.hid q3
        clear q3
        by_cases c1 : z < 0
        · rw [q1 (.inl c1)] at hpr
          have HPr := Lib.hid hpr
          clear hpr q1 q2 HQ3
          go_wp2_with fail
          refine HPr.out.mono ?_
          rintro e w6 ⟨rfl, ho6⟩
          have hL6 := HL5.out.op ho6
          have hX6 := HX5.out.op ho6
          have hN6 := fnext_any 0 _ hL6.fl
          rw [ord_next HO5.out] at hN6
          have HN6 := Lib.hid hN6
          have HO6 : Hid (OrdI w.heap.size w g gx pages _ m w6) := Lib.hid ⟨by rw [← HHas.out]; exact HM.out, _, F5, hL6, HO5.out, hX6⟩
          have hcell : w6.cell? ⟨b, off + k, none⟩ = some (.int .i64 z) := hck6 _ hL6.be
          clear hN6 hL6 hX6 ho6 HPr
          go_wp2_with fail
          refine HN6.out.mono ?_
          rintro e w7 ⟨rfl, rfl⟩
          go_wp2_with fail
          go_roundw
          case rel => exact ⟨k + 1, m, by omega, by simp, rfl, hm, HO6⟩
          case measure => simp [intOf]; omega
        · by_cases c2 : (has : Int) ≤ z
          · rw [q1 (.inr c2)] at hpr
            have HPr := Lib.hid hpr
            clear hpr q1 q2 HQ3
            go_wp2_with fail
            refine HPr.out.mono ?_
            rintro e w6 ⟨rfl, ho6⟩
            have hL6 := HL5.out.op ho6
            have hX6 := HX5.out.op ho6
            have hN6 := fnext_any 0 _ hL6.fl
            rw [ord_next HO5.out] at hN6
            have HN6 := Lib.hid hN6
            have HO6 : Hid (OrdI w.heap.size w g gx pages _ m w6) := Lib.hid ⟨by rw [← HHas.out]; exact HM.out, _, F5, hL6, HO5.out, hX6⟩
            have hcell : w6.cell? ⟨b, off + k, none⟩ = some (.int .i64 z) := hck6 _ hL6.be
            clear hN6 hL6 hX6 ho6 HPr
            go_wp2_with fail
            refine HN6.out.mono ?_
            rintro e w7 ⟨rfl, rfl⟩
            go_wp2_with fail
            go_roundw
            case rel => exact ⟨k + 1, m, by omega, by simp, rfl, hm, HO6⟩
            case measure => simp [intOf]; omega
          · by_cases c3 : z = (m : Int)
            · subst c3
              clear q1 q2
              have hmh : m < has := by omega
              obtain ⟨q4, q5⟩ := HQ3.out rfl hmh
              rw [q4] at hpr
              have HPr := Lib.hid hpr
              have HO6' := Lib.hid q5
              clear hpr q4 q5 HQ3
              go_wp2_with fail
              refine HPr.out.mono ?_
              rintro e w6 ⟨rfl, ho6⟩
              have hL6 := HL5.out.op ho6
              have hX6 := HX5.out.op ho6
              have hN6 := fnext_any 0 _ hL6.fl
              rw [ord_next HO6'.out] at hN6
              have HN6 := Lib.hid hN6
              have HO6 : Hid (OrdI w.heap.size w g gx pages _ (m + 1) w6) := Lib.hid ⟨by rw [← HHas.out]; omega, _, _, hL6, HO6'.out, hX6⟩
              have hcell : w6.cell? ⟨b, off + k, none⟩ = some (.int .i64 (m : Int)) := hck6 _ hL6.be
              clear hN6 hL6 hX6 ho6 HPr
              go_wp2_with fail
              refine HN6.out.mono ?_
              rintro e w7 ⟨rfl, rfl⟩
              go_wp2_with fail
              go_roundw
              case rel => exact ⟨k + 1, m + 1, by omega, by simp, by simp, by omega, HO6⟩
              case measure => simp [intOf]; omega
            · rw [q2 ⟨by omega, by omega⟩ c3] at hpr
              have HPr := Lib.hid hpr
              have c4 : (z == (m : Int)) = false := by simpa using c3
              have c5 : (z != (m : Int)) = true := by simp [bne, c4]
              clear hpr q1 q2 HQ3 c3
              go_wp2_with fail
              refine HPr.out.mono ?_
              rintro e w6 ⟨rfl, ho6⟩
              have hL6 := HL5.out.op ho6
              have hX6 := HX5.out.op ho6
              have hN6 := fnext_any 0 _ hL6.fl
              rw [ord_next HO5.out] at hN6
              have HN6 := Lib.hid hN6
              have HO6 : Hid (OrdI w.heap.size w g gx pages _ m w6) := Lib.hid ⟨by rw [← HHas.out]; exact HM.out, _, F5, hL6, HO5.out, hX6⟩
              have hcell : w6.cell? ⟨b, off + k, none⟩ = some (.int .i64 z) := hck6 _ hL6.be
              clear hN6 hL6 hX6 ho6 HPr
              go_wp2_with fail
              refine HN6.out.mono ?_
              rintro e w7 ⟨rfl, rfl⟩
              go_wp2_with fail
              go_roundw
              case rel => exact ⟨k + 1, m, by omega, by simp, rfl, hm, HO6⟩
              case measure => simp [intOf]; omega
      · obtain rfl : k = len := by omega
        have hmo := fmode_any 0 (!true) wo HL5.out.fl
        rw [ord_mode HO5.out] at hmo
        have HMo := Lib.hid hmo
        have HB5 := Lib.hid HL5.out
        clear hmo HL5 HO5 HX5
        by_cases c0 : m = 0
        · subst c0
          rw [if_pos rfl] at HMo
          go_wp2_with fail
          refine HMo.out.mono ?_
          rintro e w6 ⟨rfl, ho6⟩
          have HE := Lib.hid (HB5.out.op ho6).be
          clear ho6
          go_wp2_with fail
          rw [HPOST.out]
          exact ⟨rfl, HE.out⟩
        · rw [if_neg c0] at HMo
          go_wp2_with fail
          refine HMo.out.mono ?_
          rintro e w6 ⟨rfl, ho6⟩
          have HE := Lib.hid (HB5.out.op ho6).be
          clear ho6
          go_wp2_with fail
          rw [HPOST.out]
          exact ⟨rfl, HE.out⟩
  · go_enter Try.func3, Try.ntmps3
    go_wp2_with fail
    refine (nknown_any _).mono ?_
    rintro e w1 ⟨rfl, hb⟩
    have HB := Lib.hid hb
    clear hb
    go_wp2_with fail
    refine (HNew.out _).mono ?_
    rintro e w2 ⟨⟨g, rfl, hg⟩, hb2⟩
    have HL := Lib.hid (Law.first HB.out hg hb2)
    have HI2 := Lib.hid (HI.out.below (HB.out.trans (hb2.mono HB.out.size)) (Nat.le_refl _))
    obtain ⟨S, hS⟩ : ∃ S : Zone, S = fun k => w1.heap.size ≤ k ∧ k < w2.heap.size := ⟨_, rfl⟩
    rw [← hS] at HL
    clear hg hb2 hS
    go_wp2_with fail
    refine (norder_mode _ _ _ HL.out).mono ?_
    rintro e w3 ⟨rfl, S3, F3, hL3, hO3⟩
    have HL3 := Lib.hid hL3
    have HO3 := Lib.hid hO3
    clear hL3 hO3 HL
    go_wp2_with (at_make; refine Stop.mk ?_)
    refine Stop.go ?_
    refine wpList_make_u8 rfl _ _ 29 rfl w3.heap.size 5 Try.underlying29 Try.infoU8 73 rfl rfl (by omega) (Nat.le_refl _) ?_
    intro w4 hown hg4
    have hb4 : Below w3.heap.size w3 w4 := (Below.refl _ _).grown hg4 (Nat.le_refl _) (fun k hk => by simp at hk)
    have hX := bytesO_made hown (by simp) HL3.out.fl.1.2
    have hL4 := HL3.out.below hb4
    have HI4 : Hid (Ints .i64 w4 a len zs) := Lib.hid (HI.out.below hL4.be (Nat.le_refl _))
    obtain ⟨gx, hgx⟩ : ∃ gx, gx = w3.heap.size := ⟨_, rfl⟩
    rw [← hgx] at hX ⊢
    have HO4 : Hid (OrdI w.heap.size w g gx pages _ 0 w4) := Lib.hid ⟨Nat.zero_le _, S3, F3, hL4, HO3.out, hX⟩
    clear hgx hX hL4 hown hg4 hb4 HL3 HO3 HI2
    clear HNew
    go_wp2_with fail
    go_loopw [11, 12] (fun n i wr => ∃ k m : Nat, k ≤ len ∧ i = .int .i64 (k : Int) ∧ n = .int .i64 (m : Int) ∧ m ≤ 256 ∧ Hid (OrdI w.heap.size w g gx pages _ m wr)) (fun _ i _ => len - (intOf i).toNat)
    case atStart => exact ⟨0, 0, Nat.zero_le _, rfl, rfl, by omega, HO4⟩
    case round =>
      clear HO4
      obtain ⟨k, m, hk, rfl, rfl, hm, HO⟩ := hrel
      obtain ⟨wo, rfl⟩ : ∃ wo : World, wo = wr := ⟨_, rfl⟩
      obtain ⟨hM, S5, F5, hL5, hO5, hX5⟩ := HO.out
      rw [← HHas.out] at hM
      have HM := Lib.hid hM
      have HL5 := Lib.hid hL5
      have HO5 := Lib.hid hO5
      have HX5 := Lib.hid hX5
      clear hM hL5 hO5 hX5 HO
      by_cases hlt : k < len
      · have hi5 := HI.out.below HL5.out.be (Nat.le_refl _)
        obtain ⟨b, off, rfl, hbl, hc⟩ := hi5.2 (by omega)
        have hck := hc k hlt
        obtain ⟨z, hz⟩ : ∃ z, z = zs.getD k 0 := ⟨_, rfl⟩
        rw [← hz] at hck
        have hlt' : (k : Int) < (len : Int) := by omega
        have hb0 : (0 : Int) ≤ (k : Int) ∧ (k : Int) < (len : Int) := by omega
        have hck6 : ∀ w', Below w.heap.size w w' → w'.cell? ⟨b, off + k, none⟩ = some (.int .i64 z) := fun w' hb' => by
          obtain ⟨b', off', e', hl', hc'⟩ := (HI.out.below hb' (Nat.le_refl _)).2 (by omega)
          cases e'
          rw [hz]
          exact hc' k hlt
        clear hi5 hc hz hbl
        obtain ⟨q1, q2, q3⟩ := ord_prog HO5.out z (List.replicate 73 0) (by simp)
        have hpr := fprog_any 0 z (some ⟨gx, 0, none⟩) 73 73 (List.replicate 73 0) wo HL5.out.fl HX5.out.1 HX5.out.out (by omega) (by omega)
        rw [← HHas.out] at q1 q2 q3
        have HQ3 := Lib.hid q3
        clear q3
        by_cases c1 : z < 0
        · rw [q1 (.inl c1)] at hpr
          have HPr := Lib.hid hpr
          clear hpr q1 q2 HQ3
          go_wp2_with fail
          refine HPr.out.mono ?_
          rintro e w6 ⟨rfl, ho6⟩
          have hL6 := HL5.out.op ho6
          have hX6 := HX5.out.op ho6
          have hN6 := fnext_any 0 _ hL6.fl
          rw [ord_next HO5.out] at hN6
          have HN6 := Lib.hid hN6
          have HO6 : Hid (OrdI w.heap.size w g gx pages _ m w6) := Lib.hid ⟨by rw [← HHas.out]; exact HM.out, _, F5, hL6, HO5.out, hX6⟩
          have hcell : w6.cell? ⟨b, off + k, none⟩ = some (.int .i64 z) := hck6 _ hL6.be
          clear hN6 hL6 hX6 ho6 HPr
          go_wp2_with fail
          refine HN6.out.mono ?_
          rintro e w7 ⟨rfl, rfl⟩
          go_wp2_with fail
          go_roundw
          case rel => exact ⟨k + 1, m, by omega, by simp, rfl, hm, HO6⟩
          case measure => simp [intOf]; omega
        · by_cases c2 : (pages : Int) ≤ z
          · rw [q1 (.inr c2)] at hpr
            have HPr := Lib.hid hpr
            clear hpr q1 q2 HQ3
            go_wp2_with fail
            refine HPr.out.mono ?_
            rintro e w6 ⟨rfl, ho6⟩
            have hL6 := HL5.out.op ho6
            have hX6 := HX5.out.op ho6
            have hN6 := fnext_any 0 _ hL6.fl
            rw [ord_next HO5.out] at hN6
            have HN6 := Lib.hid hN6
            have HO6 : Hid (OrdI w.heap.size w g gx pages _ m w6) := Lib.hid ⟨by rw [← HHas.out]; exact HM.out, _, F5, hL6, HO5.out, hX6⟩
            have hcell : w6.cell? ⟨b, off + k, none⟩ = some (.int .i64 z) := hck6 _ hL6.be
            clear hN6 hL6 hX6 ho6 HPr
            go_wp2_with fail
            refine HN6.out.mono ?_
            rintro e w7 ⟨rfl, rfl⟩
            go_wp2_with fail
            go_roundw
            case rel => exact ⟨k + 1, m, by omega, by simp, rfl, hm, HO6⟩
            case measure => simp [intOf]; omega
          · by_cases c3 : z = (m : Int)
            · subst c3
              clear q1 q2
              have hmh : m < pages := by omega
              obtain ⟨q4, q5⟩ := HQ3.out rfl hmh
              rw [q4] at hpr
              have HPr := Lib.hid hpr
              have HO6' := Lib.hid q5
              clear hpr q4 q5 HQ3
              go_wp2_with fail
              refine HPr.out.mono ?_
              rintro e w6 ⟨rfl, ho6⟩
              have hL6 := HL5.out.op ho6
              have hX6 := HX5.out.op ho6
              have hN6 := fnext_any 0 _ hL6.fl
              rw [ord_next HO6'.out] at hN6
              have HN6 := Lib.hid hN6
              have HO6 : Hid (OrdI w.heap.size w g gx pages _ (m + 1) w6) := Lib.hid ⟨by rw [← HHas.out]; omega, _, _, hL6, HO6'.out, hX6⟩
              have hcell : w6.cell? ⟨b, off + k, none⟩ = some (.int .i64 (m : Int)) := hck6 _ hL6.be
              clear hN6 hL6 hX6 ho6 HPr
              go_wp2_with fail
              refine HN6.out.mono ?_
              rintro e w7 ⟨rfl, rfl⟩
              go_wp2_with fail
              go_roundw
              case rel => exact ⟨k + 1, m + 1, by omega, by simp, by simp, by omega, HO6⟩
              case measure => simp [intOf]; omega
            · rw [q2 ⟨by omega, by omega⟩ c3] at hpr
              have HPr := Lib.hid hpr
              have c4 : (z == (m : Int)) = false := by simpa using c3
              have c5 : (z != (m : Int)) = true := by simp [bne, c4]
              clear hpr q1 q2 HQ3 c3
              go_wp2_with fail
              refine HPr.out.mono ?_
              rintro e w6 ⟨rfl, ho6⟩
              have hL6 := HL5.out.op ho6
              have hX6 := HX5.out.op ho6
              have hN6 := fnext_any 0 _ hL6.fl
              rw [ord_next HO5.out] at hN6
              have HN6 := Lib.hid hN6
              have HO6 : Hid (OrdI w.heap.size w g gx pages _ m w6) := Lib.hid ⟨by rw [← HHas.out]; exact HM.out, _, F5, hL6, HO5.out, hX6⟩
              have hcell : w6.cell? ⟨b, off + k, none⟩ = some (.int .i64 z) := hck6 _ hL6.be
              clear hN6 hL6 hX6 ho6 HPr
              go_wp2_with fail
              refine HN6.out.mono ?_
              rintro e w7 ⟨rfl, rfl⟩
              go_wp2_with fail
              go_roundw
              case rel => exact ⟨k + 1, m, by omega, by simp, rfl, hm, HO6⟩
              case measure => simp [intOf]; omega
      · obtain rfl : k = len := by omega
        have hmo := fmode_any 0 (!false) wo HL5.out.fl
        rw [ord_mode HO5.out] at hmo
        have HMo := Lib.hid hmo
        have HB5 := Lib.hid HL5.out
        clear hmo HL5 HO5 HX5
        by_cases c0 : m = 0
        · subst c0
          rw [if_pos rfl] at HMo
          go_wp2_with fail
          refine HMo.out.mono ?_
          rintro e w6 ⟨rfl, ho6⟩
          have HE := Lib.hid (HB5.out.op ho6).be
          clear ho6
          go_wp2_with fail
          rw [HPOST.out]
          exact ⟨rfl, HE.out⟩
        · rw [if_neg c0] at HMo
          go_wp2_with fail
          refine HMo.out.mono ?_
          rintro e w6 ⟨rfl, ho6⟩
          have HE := Lib.hid (HB5.out.op ho6).be
          clear ho6
          go_wp2_with fail
          rw [HPOST.out]
          exact ⟨rfl, HE.out⟩

set_option maxRecDepth 100000 in
set_option maxHeartbeats 4000000 in
theorem norder_any (p : Int) (one : Bool) (a : Option Addr) (len cap : Nat) (zs : List Int) (w : World) (hi : Ints .i64 w a len zs) (hp : I64 p) :
    Calls Try.prog 3 #[.int .i64 p, .bool one, .slice a len cap] w fun e w' => e = .returned (.bool true) ∧ Below w.heap.size w w' := by
  obtain ⟨POST, hPOST⟩ : ∃ Q : Ending → World → Prop, Q = fun e w' => e = .returned (.bool true) ∧ Below w.heap.size w w' := ⟨_, rfl⟩
  rw [← hPOST]
  have HPOST := Lib.hid hPOST
  clear hPOST
  have HI := Lib.hid hi
  clear hi
  unfold I64 at hp
  by_cases t1 : p < 2
  · go_enter Try.func3, Try.ntmps3
    go_wp2_with fail
    refine (nknown_any _).mono ?_
    rintro e w1 ⟨rfl, hb⟩
    have HB := Lib.hid hb
    clear hb
    go_wp2_with fail
    rw [HPOST.out]
    exact ⟨rfl, HB.out⟩
  by_cases t2 : p > 256
  · go_enter Try.func3, Try.ntmps3
    go_wp2_with fail
    refine (nknown_any _).mono ?_
    rintro e w1 ⟨rfl, hb⟩
    have HB := Lib.hid hb
    clear hb
    go_wp2_with fail
    rw [HPOST.out]
    exact ⟨rfl, HB.out⟩
  by_cases t3 : p % 2 = 0
  · by_cases t4 : len > 600
    · have t4' : (len : Int) > 600 := by omega
      go_enter Try.func3, Try.ntmps3
      go_wp2_with fail
      refine (nknown_any _).mono ?_
      rintro e w1 ⟨rfl, hb⟩
      have HB := Lib.hid hb
      clear hb
      go_wp2_with fail
      rw [HPOST.out]
      exact ⟨rfl, HB.out⟩
    · obtain ⟨pages, rfl⟩ : ∃ q : Nat, p = q := ⟨p.toNat, by omega⟩
      have t4' : (len : Int) ≤ 600 := by omega
      rw [HPOST.out]
      exact norder_go pages one a len cap zs w HI.out (by omega) (by omega) (by omega) (by omega)
  · have t3' : (p % 2 == 0) = false := by simpa using t3
    have t3'' : (p % 2 != 0) = true := by simp [bne, t3']
    go_enter Try.func3, Try.ntmps3
    go_wp2_with fail
    refine (nknown_any _).mono ?_
    rintro e w1 ⟨rfl, hb⟩
    have HB := Lib.hid hb
    clear hb
    go_wp2_with fail
    rw [HPOST.out]
    exact ⟨rfl, HB.out⟩
end Go.Proofs.Ytbbhniohliklhaa
