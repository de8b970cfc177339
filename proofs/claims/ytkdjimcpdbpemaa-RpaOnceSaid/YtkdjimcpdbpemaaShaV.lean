/- sha: the reference's long numbers: add. -/
import Derived.Test.YtkdjimcpdbpemaaShaU
import Derived.Test.YtkdjimcpdbpemaaMut
import Derived.Laws.BitsAllLaws
namespace Go.Proofs.Ytkdjimcpdbpemaa
open Go Go.RowKit
set_option linter.unusedVariables false

def u64s (l : List Nat) : List Value := l.map fun n : Nat => Value.int .u64 (n : Int)
theorem u64s_len (l : List Nat) : (u64s l).length = l.length := by simp [u64s]
theorem u64s_set (l : List Nat) (k v : Nat) : (u64s l).set k (.int .u64 (v : Int)) = u64s (l.set k v) := by simp [u64s, List.map_set]
theorem own64_at {w : World} {B : Nat} {e : TypeId} {g n cap : Nat} {l : List Nat} (h : w.ownsRow B e 1 (.slice (some ⟨g, 0, none⟩) n cap) n (u64s l)) (p : Nat) (hp : p < n) : w.cell? ⟨g, p, none⟩ = some (.int .u64 ((l.getD p 0 : Nat) : Int)) := by
  have hn : l.length = n := by simpa [u64s] using h.1
  have hpl : p < l.length := by omega
  rw [h.cellAt p (by omega)]
  simp [u64s, List.getD, hpl]
theorem own64_store {B : Nat} {w0 w : World} {g n cap : Nat} {l : List Nat} (h : w.ownsRow B 103 1 (.slice (some ⟨g, 0, none⟩) n cap) n (u64s l)) (hb : Below B w0 w) (Q Y : Nat) : (w.setCell ⟨g, Q, none⟩ (.int .u64 (Y : Int))).ownsRow B 103 1 (.slice (some ⟨g, 0, none⟩) n cap) n (u64s (l.set Q Y)) ∧ Below B w0 (w.setCell ⟨g, Q, none⟩ (.int .u64 (Y : Int))) := by
  have hst := h.stored Q (.int .u64 (Y : Int))
  rw [u64s_set] at hst
  exact ⟨hst.1, hb.setCell (by have := h.lt g rfl; exact this.1) _⟩
theorem mask32 (v : Nat) (h : v < 18446744073709551616) : bits .and .u64 (v : Int) 4294967295 = ((v % 4294967296 : Nat) : Int) := by
  rw [show (4294967295 : Int) = ((4294967295 : Nat) : Int) by rfl, bits_and_u64_nat _ _ h (by omega), show (4294967295 : Nat) = 2 ^ 32 - 1 by rfl, Nat.and_two_pow_sub_one_eq_mod]
def All32 (l : List Nat) : Prop := ∀ x ∈ l, x < 4294967296
theorem All32.at {l : List Nat} (h : All32 l) (p : Nat) : l.getD p 0 < 4294967296 := by
  rcases Nat.lt_or_ge p l.length with q | q
  · exact h _ (by simp [List.getD, q])
  · simp [List.getD, List.getElem?_eq_none q]
theorem All32.set {l : List Nat} (h : All32 l) (p v : Nat) (hv : v < 4294967296) : All32 (l.set p v) := by
  intro x hx
  rcases List.mem_or_eq_of_mem_set hx with q | q
  · exact h x q
  · rw [q]; exact hv
theorem addL_all : ∀ (f : Nat) (l : List Nat) (p v : Nat), All32 l → All32 (addL f l p v) ∧ (addL f l p v).length = l.length
  | 0, l, p, v, h => ⟨h, rfl⟩
  | f + 1, l, p, v, h => by
    rw [addL]
    split
    · obtain ⟨a, b⟩ := addL_all f (l.set p ((l.getD p 0 + v % 4294967296) % 4294967296)) (p + 1) (v / 4294967296 + (l.getD p 0 + v % 4294967296) / 4294967296) (h.set _ _ (Nat.mod_lt _ (by omega)))
      exact ⟨a, by rw [b]; simp⟩
    · exact ⟨h, rfl⟩

set_option maxRecDepth 100000 in
set_option maxHeartbeats 4000000 in
theorem radd_any (B g n cap : Nat) (l : List Nat) (p v f : Nat) (w : World) (ho : w.ownsRow B 103 1 (.slice (some ⟨g, 0, none⟩) n cap) n (u64s l)) (hl : All32 l) (hv : v < 18446744073709551616) (hp : p ≤ 1000) (hn : n ≤ 1000) (hf : n ≤ f + p) :
    Calls Try.prog 53 #[.slice (some ⟨g, 0, none⟩) n cap, .int .i64 (p : Int), .int .u64 (v : Int)] w fun e w' => e = .returned (.tuple #[]) ∧ w'.ownsRow B 103 1 (.slice (some ⟨g, 0, none⟩) n cap) n (u64s (addL f l p v)) ∧ Below B w w' := by
  have HO := Lib.hid ho
  have HL := Lib.hid hl
  have HB : Hid (Below B w w) := Lib.hid (Below.refl _ _)
  have hln : l.length = n := by simpa [u64s] using ho.1
  have HLn := Lib.hid hln
  obtain ⟨R, hR⟩ : ∃ R, R = addL f l p v := ⟨_, rfl⟩
  have HR : Hid (addL f l p v = R) := Lib.hid hR.symm
  rw [← hR]
  clear ho hl hR hln
  go_enter Try.func53, Try.ntmps53
  go_wp2_with fail
  go_loopw [1, 2] (fun i x wr => ∃ (f' p' v' : Nat) (l' : List Nat), i = .int .i64 (p' : Int) ∧ x = .int .u64 (v' : Int) ∧ p' ≤ 1001 ∧ v' < 18446744073709551616 ∧ n ≤ f' + p' ∧ Hid (addL f' l' p' v' = R) ∧ Hid (All32 l') ∧ Hid (l'.length = n) ∧ Hid (wr.ownsRow B 103 1 (.slice (some ⟨g, 0, none⟩) n cap) n (u64s l')) ∧ Hid (Below B w wr)) (fun i _ _ => 1001 - (intOf i).toNat)
  case atStart => exact ⟨f, p, v, l, rfl, rfl, by omega, hv, hf, HR, HL, HLn, HO, HB⟩
  case round =>
    clear HR HL HLn HO HB
    obtain ⟨f', p', v', l', rfl, rfl, hp', hv', hf', HR, HL, HLn, HO, HB⟩ := hrel
    obtain ⟨wo, rfl⟩ : ∃ wo : World, wo = wr := ⟨_, rfl⟩
    by_cases hlt : 0 < v' ∧ p' < n
    · obtain ⟨h0, hpn⟩ := hlt
      obtain ⟨f2, rfl⟩ : ∃ f2, f' = f2 + 1 := ⟨f' - 1, by omega⟩
      have hx := HL.out.at p'
      have hcl := own64_at HO.out p' hpn
      have hfr := HO.out.frozenAt p'
      obtain ⟨x, hxe⟩ : ∃ x, x = l'.getD p' 0 := ⟨_, rfl⟩
      obtain ⟨m, hm⟩ : ∃ m, m = v' % 4294967296 := ⟨_, rfl⟩
      obtain ⟨s, hs⟩ : ∃ s, s = x + m := ⟨_, rfl⟩
      obtain ⟨y, hy⟩ : ∃ y, y = s % 4294967296 := ⟨_, rfl⟩
      obtain ⟨nv, hnv⟩ : ∃ nv, nv = v' / 4294967296 + s / 4294967296 := ⟨_, rfl⟩
      have hR2 : addL f2 (l'.set p' y) (p' + 1) nv = R := by
        rw [← HR.out, addL, if_pos ⟨h0, by rw [HLn.out]; exact hpn⟩, hnv, hy, hs, hxe, hm]
      rw [← hxe] at hx hcl
      have b1 : bits .and .u64 (v' : Int) 4294967295 = (m : Int) := by rw [mask32 v' hv', hm]
      have b2 : bits .and .u64 (s : Int) 4294967295 = (y : Int) := by rw [mask32 s (by omega), hy]
      have e1 : (x : Int) + (m : Int) = (s : Int) := by omega
      have d1 : (v' : Int) / 4294967296 + (s : Int) / 4294967296 = (nv : Int) := by omega
      have HSt := Lib.hid (own64_store HO.out HB.out p' y)
      have HA2 := Lib.hid (HL.out.set p' y (by omega))
      have HLn2 : Hid ((l'.set p' y).length = n) := Lib.hid (by simpa using HLn.out)
      have HR2 := Lib.hid hR2
      have t1 : (0 : Int) < (v' : Int) := by omega
      have t2 : (p' : Int) < (n : Int) := by omega
      have t3 : (0 : Int) ≤ (p' : Int) := by omega
      have hnvl : nv < 18446744073709551616 := by omega
      have hsl : s < 18446744073709551616 := by omega
      have hml : m < 4294967296 := by omega
      clear hxe hm hs hy hnv hR2
      go_wp2_with fail
      go_roundw
      case rel => exact ⟨f2, p' + 1, nv, l'.set p' y, by go_num, by go_num, by omega, hnvl, by omega, HR2, HA2, HLn2, Lib.hid HSt.out.1, Lib.hid HSt.out.2⟩
      case measure => simp [intOf]; omega
    · have hRl : l' = R := by
        rw [← HR.out]
        cases f' with
        | zero => rfl
        | succ f2 => rw [addL, if_neg (by rw [HLn.out]; exact hlt)]
      have HRl := Lib.hid hRl
      have hex : (¬ ((0 : Int) < (v' : Int))) ∨ ((0 : Int) < (v' : Int) ∧ ¬ ((p' : Int) < (n : Int))) := by omega
      clear hRl hlt
      rcases hex with t1 | ⟨t1, t2⟩
      all_goals
        go_wp2_with fail
        go_end0
        exact ⟨rfl, by rw [← HRl.out]; exact HO.out, HB.out⟩

end Go.Proofs.Ytkdjimcpdbpemaa
