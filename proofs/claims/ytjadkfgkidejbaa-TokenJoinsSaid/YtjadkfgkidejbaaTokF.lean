/- token: the two Splits. -/
import Derived.Test.YtjadkfgkidejbaaTokE
import Derived.Test.YtjadkfgkidejbaaRowsB
namespace Go.Proofs.Ytjadkfgkidejbaa
open Go.RowKit
set_option linter.unusedVariables false

/-- Where a reading of blocks ends: the blocks, what was taken, the error. -/
def splitR (l : List Nat) (size : Int) : Nat → Nat → List (List Nat) → List (List Nat) × Nat × Int
  | 0, k, ls => (ls, k, 0)
  | f + 1, k, ls => if k < l.length then (if readErr (l.drop k) size = 0 then splitR l size f (k + (size.toNat + 3)) (ls ++ [readL (l.drop k) size]) else (ls, k, readErr (l.drop k) size)) else (ls, k, 0)
def splitAll (l : List Nat) (size : Int) : List (List Nat) × Nat × Int := splitR l size (l.length + 1) 0 []

def SplitAt (B : Nat) (w : World) (r : List (List Nat) × Nat × Int) (e : Ending) : Prop :=
  ∃ v, e = .returned (.tuple #[v, .int .i64 (r.2.1 : Nat), .int .i64 r.2.2]) ∧ RowsAt B 24 w v r.1

theorem splitR_step (l : List Nat) (size : Int) (f k : Nat) (ls : List (List Nat)) (h : k < l.length) : splitR l size (f + 1) k ls = if readErr (l.drop k) size = 0 then splitR l size f (k + (size.toNat + 3)) (ls ++ [readL (l.drop k) size]) else (ls, k, readErr (l.drop k) size) := by simp only [splitR, if_pos h]
theorem splitR_end (l : List Nat) (size : Int) (f k : Nat) (ls : List (List Nat)) (h : ¬ k < l.length) : splitR l size f k ls = (ls, k, 0) := by cases f <;> simp only [splitR, if_neg h]
theorem read_ok {b : List Nat} {size : Int} (h : readErr b size = 0) : 0 ≤ size ∧ size ≤ 4096 ∧ size + 3 ≤ (b.length : Int) := by
  unfold readErr at h
  split at h
  · omega
  · split at h
    · omega
    · split at h
      · omega
      · omega

theorem Bytes.drop {w : World} {b off len : Nat} {l : List Nat} (h : Bytes w (some ⟨b, off, none⟩) len l) (k : Nat) (hk : k ≤ len) : Bytes w (some ⟨b, off + k, none⟩) (len - k) (l.drop k) := by
  refine ⟨by simp [h.1], fun c hc => h.2.1 c (List.mem_of_mem_drop hc), fun h0 => ?_⟩
  obtain ⟨b', off', he, hlt, hc⟩ := h.2.2 (by omega)
  simp at he
  obtain ⟨rfl, rfl⟩ := he
  refine ⟨b, off + k, rfl, hlt, fun i hi => ?_⟩
  have := hc (k + i) (by omega)
  rw [show off + k + i = off + (k + i) by omega, this]
  simp [List.getD]

theorem infoRow : (Try.prog.info? 24).map (fun i => (i.zero, i.size, i.bytes)) = some (some (.slice none 0 0), 1, 24) := by kernel_rfl

set_option maxRecDepth 100000 in
set_option maxHeartbeats 4000000 in
theorem tsplit_any (a : Option Addr) (len cap : Nat) (l : List Nat) (size : Int) (w : World) (hi : Bytes w a len l) (hnil : a = none → cap = 0) (hl : len ≤ 1000000) (hc : len ≤ cap) (hcm : cap ≤ maxLen) :
    Calls Try.prog 17 #[.slice a len cap, .int .i64 size] w fun e w' => SplitAt w.heap.size w' (splitAll l size) e ∧ Below w.heap.size w w' := by
  have HLen : Hid (l.length = len) := hi.1
  obtain ⟨i0, hi0, hz0, hs0, hb0⟩ : ∃ i, Try.prog.info? 24 = some i ∧ i.zero = some (.slice none 0 0) ∧ i.size = 1 ∧ i.bytes = 24 := by
    have := infoRow
    revert this
    cases Try.prog.info? 24 with
    | none => intro h; simp at h
    | some i => intro h; simp at h; exact ⟨i, rfl, h.1, h.2.1, h.2.2⟩
  have HI := Lib.hid hi0
  have HZ := Lib.hid hz0
  have HS := Lib.hid hs0
  have HB := Lib.hid hb0
  clear hi0 hz0 hs0 hb0
  go_enter Try.func17, Try.ntmps17
  go_wp2_with fail
  go_loopw [7, 8] (fun v i wr => ∃ (k f : Nat) (ls : List (List Nat)), k ≤ len ∧ len + 1 ≤ f + k ∧ ls.length ≤ k ∧ i = .int .i64 k ∧ RowsAt w.heap.size 24 wr v ls ∧ Below w.heap.size w wr ∧ Hid (splitR l size f k ls = splitAll l size)) (fun _ i _ => len - (intOf i).toNat)
  case atStart => exact ⟨0, len + 1, [], by omega, by omega, by simp, rfl, RowsAt.nil _ _ _, Below.refl _ _, by unfold Hid splitAll; rw [HLen.out]⟩
  case round =>
    obtain ⟨k, f, ls, hk, hf, hll, rfl, hR, hb, HR⟩ := hrel
    have HRows := Lib.hid hR
    have hsz := hb.size
    clear hR
    obtain ⟨wo, rfl⟩ : ∃ wo : World, wo = wr := ⟨_, rfl⟩
    by_cases hlt : k < len
    · obtain ⟨f, rfl⟩ : ∃ g, f = g + 1 := ⟨f - 1, by omega⟩
      obtain ⟨b, off, rfl, hbl, hcell⟩ := hi.2.2 (by omega)
      clear hcell
      have hx := (hi.below hb (Nat.le_refl _)).drop k hk
      obtain ⟨X, hX⟩ : ∃ X, X = l.drop k := ⟨_, rfl⟩
      rw [← hX] at hx
      have hXl : X.length = len - k := by rw [hX]; simp [HLen.out]
      have hnext : (if readErr X size = 0 then splitR l size f (k + (size.toNat + 3)) (ls ++ [readL X size]) else (ls, k, readErr X size)) = splitAll l size := by
        rw [← HR.out, hX, splitR_step _ _ _ _ _ (by rw [HLen.out]; exact hlt)]
      have HNext := Lib.hid hnext
      have HX := Lib.hid hX
      clear hnext hX
      have t1 : (k : Int) < (len : Int) := by omega
      have t2 : (k : Int) ≤ (len : Int) := by omega
      go_wp2_with fail
      refine (read_any _ _ _ X size _ hx (fun h => by simp at h) (by omega) (by omega) (by omega)).mono ?_
      rintro e w2 ⟨⟨a2, cap2, he, hy2, hn2, hc2, hfr2⟩, hb2⟩
      have hb2w := hb.trans (hb2.mono hsz)
      have HR2 := Lib.hid (HRows.out.below hb2)
      have HRE : Hid (ElemAt w.heap.size w2 u7.ownBlock (readL X size) (.slice a2 (readL X size).length cap2)) := by
        refine Lib.hid ⟨a2, cap2, rfl, hy2, hn2, hc2, fun q ad h => ⟨Nat.le_trans hsz (hfr2 ad h), ?_, ?_⟩⟩
        · obtain ⟨b', o', h', hlt', _⟩ := hy2.2.2 q
          rw [h] at h'
          have := Option.some.inj h'
          rw [this]; exact hlt'
        · intro h3
          obtain ⟨us, h4, _, _⟩ := HRows.out
          have := (h4.lt ad.block h3.symm).2
          have := hfr2 ad h
          omega
      have hsz2 := hb2w.size
      clear hb2 hy2 hn2 hc2 hfr2 hx
      subst he
      by_cases h0 : readErr X size = 0
      · obtain ⟨s1, s2, s3⟩ := read_ok h0
        obtain ⟨n, rfl⟩ : ∃ n : Nat, size = n := ⟨size.toNat, by omega⟩
        have hnn : readN X n = (n : Int) + 3 := by unfold readN; rw [if_pos h0]
        have hnx := HNext.out
        rw [if_pos h0, Int.toNat_natCast] at hnx
        have HNx := Lib.hid hnx
        rw [h0, hnn]
        have hkn : k + (n + 3) ≤ len := by omega
        clear hnx h0 hnn
        go_wp2_with (first | (at_builtin; refine Stop.mk ?_) | (at_make; refine Stop.mk ?_))
        refine Stop.go ?_
        obtain ⟨us, hown, hul, huel⟩ := HR2.out
        refine wpList_append_own_at _ rfl _ _ 22 rfl w.heap.size 24 i0 (.slice none 0 0) 1 24 Try.underlying22 HI.out HZ.out HS.out HB.out rfl (by omega) u7 ls.length us rfl (hown.alloc _) ⟨w2.heap.size, 0, none⟩ 1 1 [.slice a2 (readL X n).length cap2] rfl rfl ?_ ?_ (by unfold maxLen; omega) (by omega) (by simp; omega) ?_
        · intro j u hj
          match j, hj with
          | 0, hj => simp at hj; subst hj; exact (show (World.alloc w2 _).cell? ⟨w2.heap.size, 0, none⟩ = _ by simp)
        · simp [Value.oneCell']
        intro v' w3 hown3 hgrow3 _ hat3
        have hb3 : Below w.heap.size w w3 := (hb2w.alloc hsz2 _).grown hgrow3 (by simp; omega) (fun k hk => (hown.lt k hk).1)
        have HR3 := Lib.hid (RowsAt.grown hul (fun i x h => by obtain ⟨u, hu, he⟩ := huel i x h; exact ⟨u, hu, he.below ((Below.refl _ _).alloc (Nat.le_refl _) _)⟩) (HRE.out.below ((Below.refl _ _).alloc (Nat.le_refl _) _)) hown3 hgrow3 hat3)
        clear hown3 hgrow3 hat3 hown hul huel
        have t3 : IntKind.i64.wrap ((k : Int) + ((n : Int) + 3)) = (k : Int) + ((n : Int) + 3) := IntWalk.i64_in _ (by omega)
        go_wp2
        go_round
        case rel => exact ⟨k + (n + 3), f, ls ++ [readL X n], hkn, by omega, by simp; omega, by go_num, HR3.out, hb3, HNx⟩
        case measure => simp [intOf]; omega
      · have hnx := HNext.out
        rw [if_neg h0] at hnx
        have HNx := Lib.hid hnx
        obtain ⟨er, hE⟩ : ∃ er, er = readErr X size := ⟨_, rfl⟩
        have hb0 : (er != 0) = true := by rw [bne_iff_ne, hE]; exact h0
        rw [← hE]
        have HE := Lib.hid hE
        clear hnx h0 hE
        go_wp2
        go_ret3
        refine ⟨?_, hb2w⟩
        rw [← HNx.out]
        exact ⟨_, by rw [← HE.out]; rfl, HR2.out⟩
    · obtain rfl : k = len := by omega
      have hend : splitAll l size = (ls, k, 0) := by
        rw [← HR.out]
        exact splitR_end _ _ _ _ _ (by rw [HLen.out]; exact hlt)
      have HE := Lib.hid hend
      clear hend
      go_wp2
      go_ret3
      refine ⟨?_, hb⟩
      rw [HE.out]
      exact ⟨_, rfl, HRows.out⟩

end Go.Proofs.Ytjadkfgkidejbaa
