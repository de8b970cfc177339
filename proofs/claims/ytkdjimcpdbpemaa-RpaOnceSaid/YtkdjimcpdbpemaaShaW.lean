/- sha: the reference's long numbers: times. -/
import Derived.Test.YtkdjimcpdbpemaaShaV
namespace Go.Proofs.Ytkdjimcpdbpemaa
open Go Go.RowKit
set_option linter.unusedVariables false

/-- A row of parts that may be read. -/
def Lims (w : World) (a : Option Addr) (n : Nat) (l : List Nat) : Prop :=
  l.length = n ∧ All32 l ∧ (0 < n → ∃ b off, a = some ⟨b, off, none⟩ ∧ b < w.heap.size ∧ ∀ i, i < n → w.cell? ⟨b, off + i, none⟩ = some (.int .u64 ((l.getD i 0 : Nat) : Int)))
theorem Lims.below {w w' : World} {a : Option Addr} {n : Nat} {l : List Nat} (h : Lims w a n l) (hb : Below w.heap.size w w') : Lims w' a n l :=
  ⟨h.1, h.2.1, fun h0 => by
    obtain ⟨b, off, he, hlt, hc⟩ := h.2.2 h0
    exact ⟨b, off, he, Nat.lt_of_lt_of_le hlt hb.size, fun i hi => (hb.cell (p := ⟨b, _, none⟩) hlt).trans (hc i hi)⟩⟩
theorem lims_of_own {w : World} {base : Nat} {e : TypeId} {g n cap : Nat} {l : List Nat} (h : w.ownsRow base e 1 (.slice (some ⟨g, 0, none⟩) n cap) n (u64s l)) (hl : All32 l) : Lims w (some ⟨g, 0, none⟩) n l := by
  have hn : l.length = n := by simpa [u64s] using h.1
  exact ⟨hn, hl, fun _ => ⟨g, 0, rfl, (h.lt g rfl).2, fun i hi => by rw [Nat.zero_add]; exact own64_at h i hi⟩⟩
theorem own64_zeros {w : World} {base : Nat} {e : TypeId} {v : Value} {n : Nat} (h : w.ownsRow base e 1 v n (madeCells (Value.int .u64 0).cells (n * 1)).toList) : w.ownsRow base e 1 v n (u64s (List.replicate n 0)) := by
  rw [show (Value.int .u64 0).cells = #[Value.int .u64 0] by rfl, toList_madeCells_one, Nat.mul_one] at h
  simpa [u64s] using h
section
variable {P : Program} {ops : Array Oper} {rest : List Oper} {o : Oper} {a : Act} {w : World} {Q : Exit → Act → World → Prop}
theorem wpList_make_u64 (hw : Region.wanted o (yielded ops a.tmps) = true) (lo co : Operand) (t : TypeId) (hop : o.op = Op.makeSlice t lo co)
    (base : Nat) (e : TypeId) (ht : P.underlying t = some (.slice e)) (hinfo : (P.info? e).map (fun i => (i.zero, i.size, i.bytes)) = some (some (.int .u64 0), 1, 8))
    (n : Nat) (hl : a.eval lo = .int .i64 (n : Int)) (hc : a.eval co = .int .i64 (n : Int)) (hb : n ≤ 1000000) (hbase : base ≤ w.heap.size)
    (hk : ∀ w', w'.ownsRow base e 1 (.slice (some ⟨w.heap.size, 0, none⟩) n n) n (u64s (List.replicate n 0)) → w.grownBy w' none → wpList P ops Q rest (a.put o.dst (.slice (some ⟨w.heap.size, 0, none⟩) n n)) w') :
    wpList P ops Q (o :: rest) a w := by
  obtain ⟨i, hi, hz, hsz, hby⟩ := info_parts hinfo
  refine wpList_wanted hw fun K hK' => ?_
  obtain ⟨w', hrun, r1, r2⟩ := run_make_full (P := P) w base t e i (.int .u64 0) 1 ht hi hz hsz .i64 .i64 n (by rw [hby]; omega) (by unfold maxLen; omega) hbase
  unfold Oper.wp
  simp [execOp, hop, hl, hc, hrun, Result.andThen]
  exact hK' _ _ (hk w' (own64_zeros r1) r2)
end
theorem timesTo_all (a : List Nat) (x : Nat) : ∀ i, All32 (timesTo a x i) ∧ (timesTo a x i).length = a.length + 2
  | 0 => ⟨fun y hy => by have := List.eq_of_mem_replicate hy; omega, by simp [timesTo]⟩
  | i + 1 => by
    obtain ⟨p, q⟩ := timesTo_all a x i
    rw [timesTo]
    obtain ⟨p1, q1⟩ := addL_all (a.length + 2) (timesTo a x i) i (a.getD i 0 * (x % 4294967296)) p
    obtain ⟨p2, q2⟩ := addL_all (a.length + 2) _ (i + 1) (a.getD i 0 * (x / 4294967296)) p1
    exact ⟨p2, by rw [q2, q1, q]⟩

set_option maxRecDepth 100000 in
set_option maxHeartbeats 4000000 in
theorem rtimes_any (ad : Option Addr) (n cap : Nat) (l : List Nat) (x : Nat) (w : World) (hi : Lims w ad n l) (hn : n ≤ 100) (hx : x < 1099511627776) :
    Calls Try.prog 51 #[.slice ad n cap, .int .u64 (x : Int)] w fun e w' => (∃ g c, e = .returned (.slice (some ⟨g, 0, none⟩) (n + 2) c) ∧ w'.ownsRow w.heap.size 103 1 (.slice (some ⟨g, 0, none⟩) (n + 2) c) (n + 2) (u64s (timesL l x))) ∧ Below w.heap.size w w' := by
  have HI := Lib.hid hi
  have hln := hi.1
  have HLn := Lib.hid hln
  obtain ⟨lo, hlo⟩ : ∃ lo, lo = x % 4294967296 := ⟨_, rfl⟩
  obtain ⟨hh, hhh⟩ : ∃ hh, hh = x / 4294967296 := ⟨_, rfl⟩
  have b1 : bits .and .u64 (x : Int) 4294967295 = (lo : Int) := by rw [mask32 x (by omega), hlo]
  have d1 : (x : Int) / 4294967296 = (hh : Int) := by omega
  have hlol : lo < 4294967296 := by omega
  have hhl : hh < 256 := by omega
  have HLo := Lib.hid hlo
  have HHi := Lib.hid hhh
  have tn : (n : Int) ≤ 100 := by omega
  have hx' : x < 18446744073709551616 := by omega
  clear hi hlo hhh hln
  go_enter Try.func51, Try.ntmps51
  go_wp2_with (at_make; refine Stop.mk ?_)
  refine Stop.go ?_
  refine wpList_make_u64 rfl _ _ 98 rfl w.heap.size 103 Try.underlying98 (by kernel_rfl) (n + 2) (by go_num) (by go_num) (by omega) (Nat.le_refl _) ?_
  intro w1 hown1 hgrow1
  have hb1 : Below w.heap.size w w1 := (Below.refl _ _).grown hgrow1 (Nat.le_refl _) (fun k hk => by cases hk)
  have HO1 : Hid (w1.ownsRow w.heap.size 103 1 (.slice (some ⟨w.heap.size, 0, none⟩) (n + 2) (n + 2)) (n + 2) (u64s (timesTo l x 0))) := Lib.hid (by rw [timesTo, HLn.out]; exact hown1)
  have HB1 := Lib.hid hb1
  clear hown1 hgrow1 hb1
  go_wp2_with fail
  go_loopw [8] (fun i wr => ∃ k : Nat, k ≤ n ∧ i = .int .i64 (k : Int) ∧ Hid (wr.ownsRow w.heap.size 103 1 (.slice (some ⟨w.heap.size, 0, none⟩) (n + 2) (n + 2)) (n + 2) (u64s (timesTo l x k))) ∧ Hid (Below w.heap.size w wr)) (fun i _ => n - (intOf i).toNat)
  case atStart => exact ⟨0, by omega, rfl, HO1, HB1⟩
  case round =>
    clear HO1 HB1
    obtain ⟨k, hk, rfl, HO, HB⟩ := hrel
    obtain ⟨wo, rfl⟩ : ∃ wo : World, wo = wr := ⟨_, rfl⟩
    by_cases hlt : k < n
    · obtain ⟨b, off, rfl, hbl, hcell⟩ := HI.out.2.2 (by omega)
      have hcl := (HB.out.cell (p := ⟨b, off + k, none⟩) hbl).trans (hcell k hlt)
      have hal := HI.out.2.1.at k
      obtain ⟨y, hy⟩ : ∃ y, y = l.getD k 0 := ⟨_, rfl⟩
      rw [← hy] at hcl hal
      obtain ⟨m1, hm1⟩ : ∃ m, m = y * lo := ⟨_, rfl⟩
      obtain ⟨m2, hm2⟩ : ∃ m, m = y * hh := ⟨_, rfl⟩
      have hm1l : m1 < 18446744073709551616 := by
        rw [hm1]
        have := Nat.mul_le_mul (show y ≤ 4294967295 by omega) (show lo ≤ 4294967295 by omega)
        omega
      have hm2l : m2 < 18446744073709551616 := by
        rw [hm2]
        have := Nat.mul_le_mul (show y ≤ 4294967295 by omega) (show hh ≤ 255 by omega)
        omega
      have p1 : (y : Int) * (lo : Int) = (m1 : Int) := by rw [hm1]; simp
      have p2 : (y : Int) * (hh : Int) = (m2 : Int) := by rw [hm2]; simp
      have HStep : Hid (addL (n + 2) (addL (n + 2) (timesTo l x k) k m1) (k + 1) m2 = timesTo l x (k + 1)) := Lib.hid (by rw [timesTo, HLn.out, ← hy, ← HLo.out, ← HHi.out, hm1, hm2])
      have HA := Lib.hid (timesTo_all l x k).1
      have t1 : (k : Int) < (n : Int) := by omega
      have t2 : (0 : Int) ≤ (k : Int) := by omega
      clear hcell hy hm1 hm2
      go_wp2_with fail
      refine (radd_any w.heap.size w.heap.size (n + 2) (n + 2) (timesTo l x k) k m1 (n + 2) _ HO.out HA.out hm1l (by omega) (by omega) (by omega)).mono ?_
      rintro e w2 ⟨rfl, hO2, hB2⟩
      have HO2 := Lib.hid hO2
      have HB2 := Lib.hid (HB.out.trans hB2)
      have HA2 := Lib.hid (addL_all (n + 2) (timesTo l x k) k m1 HA.out).1
      have hcl2 := (HB2.out.cell (p := ⟨b, off + k, none⟩) hbl).trans ((HB.out.cell (p := ⟨b, off + k, none⟩) hbl).symm.trans hcl)
      clear hO2 hB2
      go_wp2_with fail
      refine (radd_any w.heap.size w.heap.size (n + 2) (n + 2) (addL (n + 2) (timesTo l x k) k m1) (k + 1) m2 (n + 2) _ HO2.out HA2.out hm2l (by omega) (by omega) (by omega)).mono ?_
      rintro e w3 ⟨rfl, hO3, hB3⟩
      have HO3 : Hid (w3.ownsRow w.heap.size 103 1 (.slice (some ⟨w.heap.size, 0, none⟩) (n + 2) (n + 2)) (n + 2) (u64s (timesTo l x (k + 1)))) := Lib.hid (by rw [← HStep.out]; exact hO3)
      have HB3 := Lib.hid (HB2.out.trans hB3)
      clear hO3 hB3
      go_wp2_with fail
      go_roundw
      case rel => exact ⟨k + 1, by omega, by go_num, HO3, HB3⟩
      case measure => simp [intOf]; omega
    · have HF : Hid (wo.ownsRow w.heap.size 103 1 (.slice (some ⟨w.heap.size, 0, none⟩) (n + 2) (n + 2)) (n + 2) (u64s (timesL l x))) := Lib.hid (by
        have := HO.out
        rw [show k = l.length by have := HLn.out; omega] at this
        exact this)
      have t1 : ¬ ((k : Int) < (n : Int)) := by omega
      clear HO hlt
      go_wp2_with fail
      go_ret
      exact ⟨⟨_, _, rfl, HF.out⟩, HB.out⟩

end Go.Proofs.Ytkdjimcpdbpemaa
