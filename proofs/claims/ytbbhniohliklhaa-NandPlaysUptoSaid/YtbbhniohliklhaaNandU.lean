/- nand: what an act programs. -/
import Derived.Test.YtbbhniohliklhaaNandT
namespace Go.Proofs.Ytbbhniohliklhaa
open Go Go.RowKit
set_option linter.unusedVariables false

def fillL (f N : Nat) : List Nat := (List.range N).map fun i => (f + i) % 256
def fillTo (f N k : Nat) : List Nat := (List.range k).map (fun i => (f + i) % 256) ++ List.replicate (N - k) 0
theorem fillTo_len {f N k : Nat} (h : k ≤ N) : (fillTo f N k).length = N := by simp [fillTo]; omega
theorem fillTo_zero (f N : Nat) : fillTo f N 0 = List.replicate N 0 := by simp [fillTo]
theorem fillTo_all (f N : Nat) : fillTo f N N = fillL f N := by simp [fillTo, fillL]
theorem fillTo_step {f N k : Nat} (h : k < N) : (fillTo f N k).set k ((f + k) % 256) = fillTo f N (k + 1) := by
  unfold fillTo
  rw [List.range_succ, List.map_append, List.append_assoc]
  rw [List.set_append_right _ _ (by simp)]
  congr 1
  obtain ⟨m, hm⟩ : ∃ m, N - k = m + 1 := ⟨N - k - 1, by omega⟩
  rw [hm, show N - (k + 1) = m by omega]
  simp [List.replicate_succ]
/-- What an act programs. -/
def NAct.bytes (x : NAct) (ch : Nat) : List Nat := if 0 < x.raw.length then x.raw else fillL x.fill.toNat (ch * 73)
def NAct.agg (x : NAct) : Value := .agg #[.int .i64 x.op, .int .i64 x.blk, .int .i64 x.page, .bool x.own, .int .u8 x.fill, .slice x.ra x.raw.length x.rc, .bool x.one, .int .i64 x.n]
def RawR (x : NAct) (ch : Nat) (w : World) (e : Ending) (w' : World) : Prop :=
  (∃ a c, e = .returned (.slice a (x.bytes ch).length c) ∧ Bytes w' a (x.bytes ch).length (x.bytes ch) ∧ (x.bytes ch).length ≤ c ∧ (a = none → c = 0) ∧ ((a = x.ra ∧ 0 < x.raw.length) ∨ ∀ ad, a = some ad → w.heap.size ≤ ad.block)) ∧ Below w.heap.size w w'

set_option maxRecDepth 100000 in
set_option maxHeartbeats 4000000 in
theorem lraw_any (x : NAct) (ch : Nat) (w : World) (hx : x.wf w) (h1 : 1 ≤ ch) (h2 : ch ≤ 8) :
    Calls Try.prog 22 #[x.agg, .int .i64 (ch : Int)] w (RawR x ch w) := by
  obtain ⟨POST, hPOST⟩ : ∃ Q, Q = RawR x ch w := ⟨_, rfl⟩
  rw [← hPOST]
  have HPOST := Lib.hid hPOST
  clear hPOST
  unfold NAct.agg
  obtain ⟨hf1, hf2⟩ := hx.2.2.2.1
  have HX := Lib.hid hx
  obtain ⟨L, hL⟩ : ∃ L, L = x.raw.length := ⟨_, rfl⟩
  have HL := Lib.hid hL
  rw [← hL]
  clear hL
  obtain ⟨f, hf⟩ : ∃ f : Nat, x.fill = (f : Int) := ⟨x.fill.toNat, by omega⟩
  have HF := Lib.hid hf
  rw [hf] at hf2 ⊢
  have hf256 : f < 256 := by omega
  clear hx hf1 hf2 hf
  have hrw := HX.out.2.2.2.2.2
  have hrc : L ≤ x.rc := by rw [HL.out]; exact hrw.2.2.1
  have hnn := hrw.2.1
  generalize hra : x.ra = ra at *
  generalize x.op = op
  generalize x.blk = blk
  generalize x.page = pg
  generalize x.own = ow
  generalize x.one = one
  generalize x.n = nn
  generalize hrcc : x.rc = rc at *
  have HRa := Lib.hid hra
  have HNn := Lib.hid hnn
  have HBy : Hid (Bytes w ra L x.raw) := Lib.hid (by rw [HL.out]; exact hrw.1)
  have HB1 : Hid (Below w.heap.size w (w.alloc (.cells #[.int .i64 op, .int .i64 blk, .int .i64 pg, .bool ow, .int .u8 (f : Int), .slice ra L rc, .bool one, .int .i64 nn] 53))) := Lib.hid ((Below.refl _ _).alloc (Nat.le_refl _) _)
  clear hrw hra hnn hrcc
  by_cases h0 : 0 < L
  · have h0' : (0 : Int) < (L : Int) := by omega
    go_enter Try.func22, Try.ntmps22
    go_wp2_with fail
    rw [HPOST.out]
    have he : x.bytes ch = x.raw := by unfold NAct.bytes; rw [if_pos (by rw [← HL.out]; exact h0)]
    unfold RawR
    rw [he, ← HL.out]
    exact ⟨⟨_, _, rfl, HBy.out.below HB1.out (Nat.le_refl _), hrc, HNn.out, .inl ⟨HRa.out.symm, h0⟩⟩, HB1.out⟩
  · have hL0 : L = 0 := by omega
    rw [hL0]
    rw [hL0] at HB1
    obtain ⟨N, hN⟩ : ∃ N, N = ch * 73 := ⟨_, rfl⟩
    have i1 : (ch : Int) * 73 = (N : Int) := by omega
    have hN2 : N ≤ 584 := by omega
    have HN := Lib.hid hN
    have n0 : HasB (w.alloc (.cells #[.int .i64 op, .int .i64 blk, .int .i64 pg, .bool ow, .int .u8 (f : Int), .slice ra 0 rc, .bool one, .int .i64 nn] 53)) w.heap.size #[.int .i64 op, .int .i64 blk, .int .i64 pg, .bool ow, .int .u8 (f : Int), .slice ra 0 rc, .bool one, .int .i64 nn] 53 := HasB.new _ _ _
    have HN0 := Lib.hid n0
    have HL0 := Lib.hid hL0
    clear hN n0 h0 hL0 hrc
    go_enter Try.func22, Try.ntmps22
    go_wp2_with (at_make; refine Stop.mk ?_)
    refine Stop.go ?_
    generalize w.alloc (.cells #[.int .i64 op, .int .i64 blk, .int .i64 pg, .bool ow, .int .u8 (f : Int), .slice ra 0 rc, .bool one, .int .i64 nn] 53) = w1 at HB1 HN0 ⊢
    refine wpList_make_u8 rfl _ _ 29 rfl w1.heap.size 5 Try.underlying29 Try.infoU8 N rfl rfl (by omega) (Nat.le_refl _) ?_
    intro w2 hown2 hg2
    have hb2 : Below w1.heap.size w1 w2 := (Below.refl _ _).grown hg2 (Nat.le_refl _) (fun k hk => by simp at hk)
    have HB2 : Hid (Below w.heap.size w w2) := Lib.hid (HB1.out.trans (hb2.mono HB1.out.size))
    obtain ⟨g, hg⟩ : ∃ g, g = w1.heap.size := ⟨_, rfl⟩
    have HG : Hid (w.heap.size < g) := Lib.hid (by rw [hg]; exact HN0.out.lt)
    rw [← hg] at hown2 ⊢
    rw [← fillTo_zero f N] at hown2
    have HO2 := Lib.hid hown2
    have hb2' : Below g w1 w2 := by rw [hg]; exact hb2
    have HC2 := Lib.hid (HN0.out.below hb2' (by rw [hg]; exact HN0.out.lt))
    clear hown2 hg2 hb2 hg hb2' HB1 HN0
    go_wp2_with fail
    go_loopw [6] (fun i wr => ∃ k : Nat, k ≤ N ∧ i = .int .i64 (k : Int) ∧ Hid (wr.ownsRow g 5 1 (.slice (some ⟨g, 0, none⟩) N N) N (u8s (fillTo f N k))) ∧ Hid (Below w.heap.size w wr) ∧ Hid (HasB wr w.heap.size #[.int .i64 op, .int .i64 blk, .int .i64 pg, .bool ow, .int .u8 (f : Int), .slice ra 0 rc, .bool one, .int .i64 nn] 53)) (fun i _ => N - (intOf i).toNat)
    case atStart => exact ⟨0, Nat.zero_le _, rfl, HO2, HB2, HC2⟩
    case round =>
      clear HO2 HB2 HC2
      obtain ⟨k, hk, rfl, HO, HB, HC⟩ := hrel
      obtain ⟨wo, rfl⟩ : ∃ wo : World, wo = wr := ⟨_, rfl⟩
      by_cases hlt : k < N
      · have hlt' : (k : Int) < (N : Int) := by omega
        have hb0 : (0 : Int) ≤ (k : Int) ∧ (k : Int) < (N : Int) := by omega
        obtain ⟨s, hs⟩ : ∃ s, s = k % 256 := ⟨_, rfl⟩
        obtain ⟨v, hv⟩ : ∃ v, v = (f + k) % 256 := ⟨_, rfl⟩
        have j1 : (k : Int) % 256 = (s : Int) := by omega
        have j2 : ((f : Int) + (s : Int)) % 256 = (v : Int) := by omega
        have j3 : IntKind.u8.wrap (k : Int) = (s : Int) := by rw [IntKind.wrap_u8]; exact j1
        have j4 : IntKind.u8.wrap ((f : Int) + (s : Int)) = (v : Int) := by rw [IntKind.wrap_u8]; exact j2
        have hst := HO.out.stored k (.int .u8 (v : Int))
        rw [u8s_set, hv, fillTo_step hlt, ← hv] at hst
        have hck : wo.cell? ⟨g, k, none⟩ = some (.int .u8 (((fillTo f N k).getD k 0 : Nat) : Int)) := by
          rw [HO.out.cellAt k (by omega)]
          have : k < (fillTo f N k).length := by rw [fillTo_len hk]; exact hlt
          simp [u8s, List.getD, this]
        have hfr := HO.out.frozenAt k
        have c4 : wo.cell? ⟨w.heap.size, 4, none⟩ = some (.int .u8 (f : Int)) := HC.out.at 4
        have HO3 := Lib.hid hst.1
        have HB3 : Hid (Below w.heap.size w (wo.setCell ⟨g, k, none⟩ (.int .u8 (v : Int)))) := Lib.hid (HB.out.setCell (p := ⟨g, k, none⟩) (Nat.le_of_lt HG.out) _)
        have HC3 : Hid (HasB (wo.setCell ⟨g, k, none⟩ (.int .u8 (v : Int))) w.heap.size #[.int .i64 op, .int .i64 blk, .int .i64 pg, .bool ow, .int .u8 (f : Int), .slice ra 0 rc, .bool one, .int .i64 nn] 53) := Lib.hid (HC.out.set_other (p := ⟨g, k, none⟩) (Nat.ne_of_lt HG.out) _)
        clear hst hv hs j1 j2
        generalize (fillTo f N k).getD k 0 = old at hck
        go_wp2_with fail
        go_roundw
        case rel => exact ⟨k + 1, by omega, by simp, HO3, HB3, HC3⟩
        case measure => simp [intOf]; omega
      · obtain rfl : k = N := by omega
        have hfin := HO.out
        rw [fillTo_all] at hfin
        have HFin := Lib.hid hfin
        clear hfin HO HC
        go_wp2_with fail
        rw [HPOST.out]
        have he : x.bytes ch = fillL f k := by
          unfold NAct.bytes
          rw [if_neg (by rw [← HL.out, HL0.out]; omega), HF.out, HN.out]; rfl
        unfold RawR
        rw [he]
        have hlen : (fillL f k).length = k := by simp [fillL]
        rw [hlen]
        refine ⟨⟨_, _, rfl, bytes_of_own HFin.out ?_, Nat.le_refl _, ?_, .inr ?_⟩, HB.out⟩
        · intro c hc
          simp only [fillL, List.mem_map] at hc
          obtain ⟨i, _, rfl⟩ := hc
          exact Nat.mod_lt _ (by omega)
        · intro e; cases e
        · intro ad e; cases e; exact Nat.le_of_lt HG.out
end Go.Proofs.Ytbbhniohliklhaa
