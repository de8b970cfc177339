/- sha: an append of one number; the reference's primes. -/
import Derived.Test.YtkdjimcpdbpemaaShaW
namespace Go.Proofs.Ytkdjimcpdbpemaa
open Go Go.RowKit
set_option linter.unusedVariables false

theorem u64s_append (a b : List Nat) : u64s (a ++ b) = u64s a ++ u64s b := by simp [u64s]
section
variable {P : Program} {ops : Array Oper} {rest : List Oper} {o : Oper} {a : Act} {w : World} {Q : Exit → Act → World → Prop}
/-- 'append' of one number onto a row of the call's own. -/
theorem wpList_app_one64 (hw : Region.wanted o (yielded ops a.tmps) = true) (s x : Operand) (t : TypeId)
    (ho : o.op = .call { callee := .builtin .append, args := #[s, x], argTypes := #[t, t] })
    (base : Nat) (e : TypeId) (ht : P.underlying t = some (.slice e)) (hinfo : (P.info? e).map (fun i => (i.zero, i.size, i.bytes)) = some (some (.int .u64 0), 1, 8))
    (v : Value) (n : Nat) (l : List Nat) (hs : a.eval s = v) (hown : w.ownsRow base e 1 v n (u64s l))
    (g : Nat) (hx : a.eval x = .slice (some ⟨g, 0, none⟩) 1 1) (y : Nat) (hc : w.cell? ⟨g, 0, none⟩ = some (.int .u64 (y : Int)))
    (hb : n ≤ 1000000) (hbase : base ≤ w.heap.size)
    (h : ∀ v' w', w'.ownsRow base e 1 v' (n + 1) (u64s (l ++ [y])) → w.grownBy w' v.ownBlock → wpList P ops Q rest (a.put o.dst v') w') : wpList P ops Q (o :: rest) a w := by
  obtain ⟨i, hi, hz, hsz, hby⟩ := info_parts hinfo
  refine wpList_wanted hw fun _ hK => ?_
  refine wp_append_own w s x t ho base e i (.int .u64 0) 1 8 ht hi hz hsz hby rfl (by decide) v n (u64s l) hs hown ⟨g, 0, none⟩ 1 1 [.int .u64 (y : Int)] hx rfl ?_ (by simp [Value.oneCell']) (by unfold maxLen; omega) (by omega) hbase ?_
  · intro j u hj
    match j, hj with
    | 0, hj =>
      have : Value.int .u64 (y : Int) = u := by simpa using hj
      rw [← this, Go.WideShapes.add_plain]
      exact hc
    | j + 1, hj => simp at hj
  · intro v' w' g1 g2 _
    exact hK _ _ (h v' w' (by rw [u64s_append]; exact g1) g2)
end

theorem primes_mono (v : Nat) : ∀ d, (primesTo v).length ≤ (primesTo (v + d)).length
  | 0 => Nat.le_refl _
  | d + 1 => by
    have := primes_mono v d
    rw [← Nat.add_assoc, primesTo]
    split
    · rw [List.length_append]; omega
    · exact this
theorem primes_311 : (primesTo 311).length = 63 := by decide +kernel
theorem primes_few (v : Nat) (h : v ≤ 311) : (primesTo v).length ≤ 63 := by
  have := primes_mono v (311 - v)
  rw [show v + (311 - v) = 311 by omega, primes_311] at this
  exact this
theorem primes_lt : ∀ v, ∀ p ∈ primesTo v, 2 ≤ p ∧ p < v
  | 0, p, h => by simp [primesTo] at h
  | v + 1, p, h => by
    rw [primesTo] at h
    split at h
    · rename_i hv
      rcases List.mem_append.1 h with q | q
      · have := primes_lt v p q; omega
      · simp at q; omega
    · have := primes_lt v p h; omega
def noneTo (v k : Nat) : Bool := ((primesTo v).take k).all (fun p => v % p != 0)
theorem noneTo_step (v k : Nat) (h : k < (primesTo v).length) : noneTo v (k + 1) = (noneTo v k && (v % (primesTo v).getD k 0 != 0)) := by
  unfold noneTo
  rw [take_snoc _ _ h, List.all_append]
  simp

set_option maxRecDepth 100000 in
set_option maxHeartbeats 4000000 in
theorem rprimes_any (w : World) :
    Calls Try.prog 37 #[.int .i64 64] w fun e w' => (∃ g c, e = .returned (.slice (some ⟨g, 0, none⟩) 64 c) ∧ w'.ownsRow w.heap.size 103 1 (.slice (some ⟨g, 0, none⟩) 64 c) 64 (u64s P64)) ∧ Below w.heap.size w w' := by
  have HO0 : Hid (w.ownsRow w.heap.size 103 1 (.slice none 0 0) (primesTo 2).length (u64s (primesTo 2))) := Lib.hid ⟨rfl, .inl ⟨rfl, rfl⟩⟩
  have HB0 : Hid (Below w.heap.size w w) := Lib.hid (Below.refl _ _)
  go_enter Try.func37, Try.ntmps37
  go_wp2_with fail
  go_loopw [3, 4] (fun x v wr => ∃ V : Nat, 2 ≤ V ∧ V ≤ 312 ∧ v = .int .u64 (V : Int) ∧ Hid (wr.ownsRow w.heap.size 103 1 x (primesTo V).length (u64s (primesTo V))) ∧ Hid (Below w.heap.size w wr)) (fun _ v _ => 312 - (intOf v).toNat)
  case atStart => exact ⟨2, by omega, by omega, rfl, HO0, HB0⟩
  case round =>
    clear HO0 HB0
    obtain ⟨V, hV2, hV, rfl, HO, HB⟩ := hrel
    obtain ⟨wo, rfl⟩ : ∃ wo : World, wo = wr := ⟨_, rfl⟩
    obtain ⟨a, c, hac⟩ := own_form HO.out
    subst hac
    by_cases hlt : V ≤ 311
    · have hL := primes_few V hlt
      have HP := Lib.hid (primes_lt V)
      have HSt := Lib.hid (noneTo_step V)
      have hst : primesTo (V + 1) = if noneTo V (primesTo V).length = true then primesTo V ++ [V] else primesTo V := by
        rw [primesTo]
        unfold noneTo
        rw [List.take_length]
        by_cases hb : (primesTo V).all (fun p => V % p != 0) = true
        · rw [if_pos ⟨hV2, hb⟩, if_pos hb]
        · rw [if_neg (by intro q; exact hb q.2), if_neg hb]
      have HNext := Lib.hid hst
      obtain ⟨L, hLe⟩ : ∃ L, L = (primesTo V).length := ⟨_, rfl⟩
      rw [← hLe] at HO HNext hL ⊢
      have HLe := Lib.hid hLe
      have t0 : decide ((L : Int) < 64) = true := by simp; omega
      have t1 : (L : Int) < 64 := by omega
      clear hst hLe
      go_wp2_with fail
      go_loop [5, 6] (fun b i => ∃ k : Nat, k ≤ L ∧ i = .int .i64 (k : Int) ∧ b = .bool (noneTo V k)) (fun _ i => L - (intOf i).toNat)
      case atStart => exact ⟨0, by omega, rfl, rfl⟩
      case round =>
        obtain ⟨k, hk, rfl, rfl⟩ := hrel
        by_cases hkl : k < L
        · obtain ⟨g, c', hg⟩ := own_shape HO.out (by omega)
          simp at hg
          obtain ⟨rfl, rfl⟩ := hg
          have hcl := own64_at HO.out k hkl
          have hpm : (primesTo V).getD k 0 ∈ primesTo V := by
            have := HLe.out
            simp [List.getD, show k < (primesTo V).length by omega]
          have hp2 := HP.out _ hpm
          have hs := HSt.out k (by have := HLe.out; omega)
          obtain ⟨p, hp⟩ : ∃ p, p = (primesTo V).getD k 0 := ⟨_, rfl⟩
          rw [← hp] at hcl hp2 hs
          obtain ⟨m, hm⟩ : ∃ m, m = V % p := ⟨_, rfl⟩
          have hmi : (V : Int) % (p : Int) = (m : Int) := by rw [hm]; simp
          have hmt : (V : Int).tmod (p : Int) = (m : Int) := by rw [Int.tmod_eq_emod_of_nonneg (by omega)]; exact hmi
          rw [← hm] at hs
          have HS2 := Lib.hid hs
          have t2 : (k : Int) < (L : Int) := by omega
          have t3 : (0 : Int) ≤ (k : Int) := by omega
          have t4 : ¬ ((p : Int) = 0) := by omega
          have t5 : ((p : Int) == 0) = false := by simp; omega
          obtain ⟨nb, hnb⟩ : ∃ nb, nb = noneTo V k := ⟨_, rfl⟩
          rw [← hnb] at HS2 ⊢
          clear hs hpm hp hm hnb
          by_cases hm0 : m = 0
          · have t6 : ((m : Int) == 0) = true := by simp; omega
            have HS3 : Hid (noneTo V (k + 1) = false) := Lib.hid (by rw [HS2.out]; simp [hm0])
            clear hm0
            go_wp2_with fail
            go_round
            case rel => exact ⟨k + 1, by omega, by go_num, by rw [HS3.out]⟩
            case measure => simp [intOf]; omega
          · have t6 : ((m : Int) == 0) = false := by simp; omega
            have HS3 : Hid (noneTo V (k + 1) = nb) := Lib.hid (by rw [HS2.out]; simp [hm0])
            clear hm0
            go_wp2_with fail
            go_round
            case rel => exact ⟨k + 1, by omega, by go_num, by rw [HS3.out]⟩
            case measure => simp [intOf]; omega
        · obtain rfl : k = L := by omega
          have hBs := HB.out.size
          cases hn : noneTo V k
          · have hnx := HNext.out
            rw [if_neg (by rw [hn]; decide)] at hnx
            have HN : Hid (wo.ownsRow w.heap.size 103 1 (.slice a k c) (primesTo (V + 1)).length (u64s (primesTo (V + 1)))) := Lib.hid (by rw [hnx, ← HLe.out]; exact HO.out)
            clear hnx
            go_wp2_with fail
            go_roundw
            case rel => exact ⟨V + 1, by omega, by omega, by go_num, HN, HB⟩
            case measure => simp [intOf]; omega
          · have hnx := HNext.out
            rw [if_pos hn] at hnx
            have HNl : Hid ((primesTo (V + 1)).length = k + 1) := Lib.hid (by rw [hnx, List.length_append, ← HLe.out]; rfl)
            have HNx := Lib.hid hnx
            have hc1 : (wo.alloc (.cells #[.int .u64 (V : Int)] 103)).cell? ⟨wo.heap.size, 0, none⟩ = some (.int .u64 (V : Int)) := HasB.at (HasB.new wo _ _) 0
            have HC1 := Lib.hid hc1
            clear hnx hc1
            go_wp2_with (at_builtin; refine Stop.mk ?_)
            refine Stop.go ?_
            refine wpList_app_one64 rfl (.tmp 27) (.tmp 29) 98 rfl w.heap.size 103 Try.underlying98 (by kernel_rfl) (.slice a k c) k (primesTo V) rfl (own_below HO.out ((Below.refl _ _).alloc (Nat.le_refl _) _) (Nat.le_refl _)) wo.heap.size rfl V HC1.out (by omega) (le_alloc hBs) ?_
            intro v' w' hown hgrow
            have HN : Hid (w'.ownsRow w.heap.size 103 1 v' (primesTo (V + 1)).length (u64s (primesTo (V + 1)))) := Lib.hid (by rw [HNl.out, HNx.out]; exact hown)
            have HB2 : Hid (Below w.heap.size w w') := Lib.hid ((HB.out.alloc hBs _).grown hgrow (le_alloc hBs) (fun q hq => (HO.out.lt q hq).1))
            clear hown hgrow
            go_wp2_with fail
            go_roundw
            case rel => exact ⟨V + 1, by omega, by omega, by go_num, HN, HB2⟩
            case measure => simp [intOf]; omega
    · obtain rfl : V = 312 := by omega
      have hp : primesTo 312 = P64 := primes_all
      have HF : Hid (wo.ownsRow w.heap.size 103 1 (.slice a (primesTo 312).length c) 64 (u64s P64)) := Lib.hid (by
        have := HO.out
        rw [hp] at this ⊢
        exact this)
      have hl64 : (primesTo 312).length = 64 := by rw [hp]; rfl
      rw [hl64] at HF ⊢
      obtain ⟨g, c', hg⟩ := own_shape HF.out (by omega)
      simp at hg
      obtain ⟨rfl, rfl⟩ := hg
      clear hp hl64 HO
      go_wp2_with fail
      go_ret
      exact ⟨⟨_, _, rfl, HF.out⟩, HB.out⟩

end Go.Proofs.Ytkdjimcpdbpemaa
