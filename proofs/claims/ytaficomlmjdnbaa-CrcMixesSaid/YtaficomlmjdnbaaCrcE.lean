/- crc: CrcMixes. -/
import Derived.Test.YtaficomlmjdnbaaCrcB
namespace Go.Proofs.Ytaficomlmjdnbaa
open Go.RowKit
set_option linter.unusedVariables false

def mixTo (l r : List Nat) (k : Nat) : List Nat := List.zipWith (· ^^^ ·) (l.take k) (r.take k)

theorem mixTo_succ (l r : List Nat) (k : Nat) (h1 : k < l.length) (h2 : k < r.length) : mixTo l r (k + 1) = mixTo l r k ++ [l.getD k 0 ^^^ r.getD k 0] := by
  unfold mixTo
  rw [take_snoc l k h1, take_snoc r k h2, List.zipWith_append (by simp; omega)]
  rfl
theorem mixTo_len (l r : List Nat) (k : Nat) (h1 : k ≤ l.length) (h2 : k ≤ r.length) : (mixTo l r k).length = k := by unfold mixTo; simp; omega
theorem zip_lt : ∀ (a b : List Nat), (∀ c ∈ a, c < 256) → (∀ c ∈ b, c < 256) → ∀ c ∈ List.zipWith (· ^^^ ·) a b, c < 256
  | [], _, _, _ => by simp
  | _ :: _, [], _, _ => by simp
  | x :: a, y :: b, ha, hb => by
    intro c hc
    simp only [List.zipWith_cons_cons, List.mem_cons] at hc
    rcases hc with rfl | hc
    · exact Nat.xor_lt_two_pow (n := 8) (ha x (by simp)) (hb y (by simp))
    · exact zip_lt a b (fun c h => ha c (by simp [h])) (fun c h => hb c (by simp [h])) c hc
theorem getD_lt' {l : List Nat} (hl : ∀ c ∈ l, c < 256) (k : Nat) (h : k < l.length) : l.getD k 0 < 256 := by
  rw [List.getD, List.getElem?_eq_getElem h]; exact hl _ (List.getElem_mem _)

set_option maxRecDepth 100000 in
set_option maxHeartbeats 2000000 in
theorem mixes_walk (a b : Option Addr) (la lb ca cb n : Nat) (l r : List Nat) (w : World) (hi : Bytes w a la l) (hj : Bytes w b lb r) (hna : a = none → ca = 0) (hnb : b = none → cb = 0) (hma : la ≤ 9223372036854775807) (hmb : lb ≤ 9223372036854775807)
    (hn : n = min la lb) (hl : n ≤ 4096) (hca : la ≤ ca) (hcb : lb ≤ cb) :
    Calls Try.prog 3 #[.slice a la ca, .slice b lb cb] w fun e w' => e = .returned (.bool true) ∧ Below w.heap.size w w' := by
  go_enter Try.func3, Try.ntmps3
  go_wp2_with fail
  refine (known_any _).mono ?_
  rintro e w1 ⟨rfl, hb⟩
  have hsz := hb.size
  have hna' : n ≤ la := by omega
  have hnb' : n ≤ lb := by omega
  have hcan : n ≤ ca := by omega
  have hcbn : n ≤ cb := by omega
  rcases (show (n = lb ∧ lb < la) ∨ (n = la ∧ ¬ lb < la) by omega) with ⟨h, hlt⟩ | ⟨h, hlt⟩
  all_goals
    subst h
    clear hn
    go_wp2
    go_loopw [6, 7] (fun v i wr => ∃ k : Nat, k ≤ n ∧ i = .int .i64 k ∧ wr.ownsRow w.heap.size 5 1 v k (u8s (mixTo l r k)) ∧ Below w.heap.size w wr) (fun _ i _ => n - (intOf i).toNat)
    case atStart => exact ⟨0, by omega, rfl, World.ownsRow_nil w1 w.heap.size 5 1, hb⟩
    case round =>
      clear hb hsz
      obtain ⟨k, hk, rfl, hown, hb⟩ := hrel
      by_cases hkn : k < n
      · have hi1 := hi.below hb (Nat.le_refl _)
        have hj1 := hj.below hb (Nat.le_refl _)
        obtain ⟨b1, o1, rfl, _, hc1⟩ := hi1.2.2 (by omega)
        obtain ⟨b2, o2, rfl, _, hc2⟩ := hj1.2.2 (by omega)
        have c1 := hc1 k (by omega)
        have c2 := hc2 k (by omega)
        have p1 := getD_lt' hi.2.1 k (by rw [hi.1]; omega)
        have p2 := getD_lt' hj.2.1 k (by rw [hj.1]; omega)
        have HM : Hid (mixTo l r (k + 1) = mixTo l r k ++ [l.getD k 0 ^^^ r.getD k 0]) := mixTo_succ l r k (by rw [hi.1]; omega) (by rw [hj.1]; omega)
        obtain ⟨x, hx⟩ : ∃ x, x = l.getD k 0 := ⟨_, rfl⟩
        obtain ⟨y, hy⟩ : ∃ y, y = r.getD k 0 := ⟨_, rfl⟩
        rw [← hx] at c1 p1 HM
        rw [← hy] at c2 p2 HM
        have hka := Nat.lt_of_lt_of_le hkn hna'
        have hkb := Nat.lt_of_lt_of_le hkn hnb'
        have hka2 := Int.ofNat_lt.2 hka
        have hkb2 := Int.ofNat_lt.2 hkb
        have hxy : bits BinOp.xor IntKind.u8 (x : Int) (y : Int) = ((x ^^^ y : Nat) : Int) := u8_xor_nat x y p1 p2
        have hxyl : x ^^^ y < 256 := Nat.xor_lt_two_pow (n := 8) p1 p2
        have hk1 : k + 1 ≤ 140737488355328 := by omega
        have HB := Lib.hid hb
        have HO := Lib.hid hown
        have hsz := hb.size
        clear hx hy hc1 hc2 hi1 hj1 hb hown
        go_wp2_with fail
        go_region_law ((refine step_app_u8 rfl (.tmp 25) (.tmp 35) 22 rfl w.heap.size 5 Try.underlying22 Try.infoU8 u6 k (mixTo l r k) rfl (HO.out.alloc _).drew (some ⟨wr.heap.size, 0, none⟩) 1 1 [x ^^^ y] rfl (bytes_lit1 hxyl).drew (fun h => by simp at h) hk1 (le_drew (le_alloc hsz)) ?_; intro v2 w2 hown2 hgrow2; have HO2 := Lib.hid hown2; have HG2 := Lib.hid hgrow2; clear hown2 hgrow2))
        all_goals
          go_wp2
          go_roundw
          case rel =>
            refine ⟨k + 1, by omega, by go_num, by rw [HM.out]; exact HO2.out, ?_⟩
            exact (((HB.out).alloc hsz _).drew).grown HG2.out (le_drew (le_alloc hsz)) (fun k hk => (HO.out.lt k hk).1)
          case measure => simp [intOf]; omega
      · obtain rfl : k = n := by omega
        have hml := mixTo_len l r k (by rw [hi.1]; exact hna') (by rw [hj.1]; exact hnb')
        have hmm : ∀ c ∈ mixTo l r k, c < 256 := zip_lt _ _ (fun c hc => hi.2.1 c (List.mem_of_mem_take hc)) (fun c hc => hj.2.1 c (List.mem_of_mem_take hc))
        obtain ⟨a6, cap6, hv, hy⟩ := bytes_of_own' hown hmm
        rw [hv]
        clear hv hown
        have e7 : Crc.sum7 (mixTo l r k) = Crc.sum7 (l.take k) ^^^ Crc.sum7 (r.take k) := Crc.sum7_mix _ _ (by simp [hi.1, hj.1]; omega)
        have e16 : Crc.sum16 (mixTo l r k) = Crc.sum16 (l.take k) ^^^ Crc.sum16 (r.take k) := Crc.sum16_mix _ _ (by simp [hi.1, hj.1]; omega)
        have ya := (hi.below hb (Nat.le_refl _)).take hna'
        have yb := (hj.below hb (Nat.le_refl _)).take hnb'
        have s7a := Crc.sum7_lt _ ya.2.1
        have s7b := Crc.sum7_lt _ yb.2.1
        have s16a := Crc.sum16_lt _ ya.2.1
        have s16b := Crc.sum16_lt _ yb.2.1
        have q7 : (((Crc.sum7 (mixTo l r k) : Nat) : Int) == bits BinOp.xor IntKind.u8 (Crc.sum7 (l.take k) : Nat) (Crc.sum7 (r.take k) : Nat)) = true := by rw [u8_xor_nat _ _ (by omega) (by omega), e7]; simp
        have q16 : (((Crc.sum16 (mixTo l r k) : Nat) : Int) == bits BinOp.xor IntKind.u16 (Crc.sum16 (l.take k) : Nat) (Crc.sum16 (r.take k) : Nat)) = true := by rw [u16_xor_nat _ _ (by omega) (by omega), e16]; simp
        clear e7 e16 hml hmm s7a s7b s16a s16b hi hj
        have hka3 := Int.ofNat_le.2 hcan
        have hkb3 := Int.ofNat_le.2 hcbn
        go_wp2_with fail
        go_quiet ((first | (go_at_call 13; exact quietC (seven_any _ _ _ _ _ (Bytes.drewN (by assumption) _) (by omega))) | (go_at_call 14; exact quietC (sixteen_any _ _ _ _ _ (Bytes.drewN (by assumption) _) (by omega)))))
        go_wp2
        go_ret
        exact ⟨rfl, below_drewN' hb nq⟩

theorem mixes_any (a b : Option Addr) (la lb ca cb : Nat) (l r : List Nat) (w : World) (hi : Bytes w a la l) (hj : Bytes w b lb r) (hna : a = none → ca = 0) (hnb : b = none → cb = 0) (hma : la ≤ maxLen) (hmb : lb ≤ maxLen) (hca : la ≤ ca) (hcb : lb ≤ cb) :
    Calls Try.prog 3 #[.slice a la ca, .slice b lb cb] w fun e w' => e = .returned (.bool true) ∧ Below w.heap.size w w' := by
  unfold maxLen at hma hmb
  by_cases h : min la lb ≤ 4096
  · exact mixes_walk a b la lb ca cb (min la lb) l r w hi hj hna hnb hma hmb rfl h hca hcb
  · rcases (show lb < la ∨ ¬ lb < la by omega) with hlt | hlt
    all_goals
      have h2 : 4096 < la := by omega
      have h3 : 4096 < lb := by omega
      clear h
      go_enter Try.func3, Try.ntmps3
      go_wp2_with (go_at_call 12; refine (known_any _).mono ?_; rintro e w1 ⟨rfl, hb⟩)
      go_ret
      exact ⟨rfl, hb⟩

end Go.Proofs.Ytaficomlmjdnbaa
