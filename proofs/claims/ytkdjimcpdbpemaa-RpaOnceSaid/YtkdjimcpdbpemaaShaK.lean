/- sha: all, Of. -/
import Derived.Test.YtkdjimcpdbpemaaShaJ
namespace Go.Proofs.Ytkdjimcpdbpemaa
open Go Go.RowKit
set_option linter.unusedVariables false

def flatTo (ls : List (List Nat)) (k : Nat) : List Nat := (ls.take k).flatten
theorem flatTo_step {ls : List (List Nat)} {k : Nat} {x : List Nat} (h : ls[k]? = some x) : flatTo ls (k + 1) = flatTo ls k ++ x := by
  unfold flatTo
  rw [List.take_add_one, h]
  simp
theorem flatTo_len (ls : List (List Nat)) : ∀ k, (flatTo ls k).length = sumLen ls k
  | 0 => by simp [flatTo, sumLen]
  | k + 1 => by
    cases h : ls[k]? with
    | none =>
      have h2 : flatTo ls (k + 1) = flatTo ls k := by unfold flatTo; rw [List.take_add_one, h]; simp
      rw [h2, flatTo_len ls k, sumLen]
      simp [List.getD, h]
    | some x =>
      rw [flatTo_step h, List.length_append, flatTo_len ls k, sumLen]
      simp [List.getD, h]
theorem flatTo_lt {ls : List (List Nat)} (h : ∀ x ∈ ls, ∀ c ∈ x, c < 256) (k : Nat) : ∀ c ∈ flatTo ls k, c < 256 := by
  intro c hc
  unfold flatTo at hc
  rw [List.mem_flatten] at hc
  obtain ⟨x, hx, hc⟩ := hc
  exact h x (List.mem_of_mem_take hx) c hc
theorem digS_len (kd : Bool) (key l : List Nat) : (digS kd key l).length = 32 := by unfold digS; split <;> simp [shaL, endS, outS_len]
theorem digS_lt (kd : Bool) (key l : List Nat) : ∀ c ∈ digS kd key l, c < 256 := by unfold digS; split <;> exact outS_lt _
theorem shaL_len (l : List Nat) : (shaL l).length = 32 := by simp [shaL, endS, outS_len]
theorem shaL_lt (l : List Nat) : ∀ c ∈ shaL l, c < 256 := outS_lt _

set_option maxRecDepth 100000 in
set_option maxHeartbeats 4000000 in
theorem all_gen (kd : Bool) (key : List Nat) (Hs : ∀ (B g : Nat) (l : List Nat) (w : World), DigL w B g kd key l → (∀ c ∈ l, c < 256) → l.length ≤ 100000000 → Calls Try.prog 41 #[.pointer (some ⟨g, 0, none⟩)] w fun e w' => e = .returned (.agg (u8s (digS kd key l)).toArray) ∧ Below w.heap.size w w')
    (B g : Nat) (l : List Nat) (a : Option Addr) (n cap : Nat) (ls : List (List Nat)) (w0 w : World) (h : DigL w B g kd key l) (hB : B ≤ g) (hR : RowsR w0 a ls) (hW : Below w0.heap.size w0 w) (h0 : w0.heap.size ≤ B) (hl : ls.length = n) (hb : ∀ x ∈ ls, ∀ c ∈ x, c < 256) (hx : ∀ x ∈ ls, x.length ≤ 100000) (hl8 : ∀ c ∈ l, c < 256) (hnn : l.length + sumLen ls n ≤ 100000000) (hn : n ≤ 1000000) :
    Calls Try.prog 35 #[.pointer (some ⟨g, 0, none⟩), .slice a n cap] w fun e w' => e = .returned (.agg (u8s (digS kd key (l ++ flatTo ls n))).toArray) ∧ Below B w w' := by
  have HR := Lib.hid hR
  have HBt := Lib.hid hb
  have HXl := Lib.hid hx
  have HHs := Lib.hid Hs
  have HL8 := Lib.hid hl8
  have hgl : g < w.heap.size := by obtain ⟨v, q, _⟩ := h; exact HasB.lt q
  obtain ⟨C, hC⟩ : ∃ C, C = (u8s (digS kd key (l ++ flatTo ls n))).toArray := ⟨_, rfl⟩
  have hCs : C.size = 32 := by rw [hC]; simp [u8s_len, digS_len]
  have HI : Hid ((Try.prog.info? 33).map (·.size) = some C.size) := Lib.hid (by rw [hCs]; exact info_s32)
  have HOne : Hid (C.all (·.oneCell') = true) := Lib.hid (by
    rw [hC]
    simp only [List.all_toArray, List.all_eq_true]
    exact u8s_one _)
  have HOld : Hid ((u8s (List.replicate 32 0)).toArray.size = C.size) := Lib.hid (by rw [hCs]; rfl)
  have HC := Lib.hid hC
  rw [← hC]
  have HD := Lib.hid h
  have HW := Lib.hid hW
  clear hR hb hx Hs hC hCs h hl8 hW
  go_enter Try.func35, Try.ntmps35
  go_wp2_with fail
  obtain ⟨wa, hwa⟩ : ∃ wa, wa = w.alloc (.cells (u8s (List.replicate 32 0)).toArray 33) := ⟨_, rfl⟩
  have e0 : w.alloc (.cells #[.int .u8 0, .int .u8 0, .int .u8 0, .int .u8 0, .int .u8 0, .int .u8 0, .int .u8 0, .int .u8 0, .int .u8 0, .int .u8 0, .int .u8 0, .int .u8 0, .int .u8 0, .int .u8 0, .int .u8 0, .int .u8 0, .int .u8 0, .int .u8 0, .int .u8 0, .int .u8 0, .int .u8 0, .int .u8 0, .int .u8 0, .int .u8 0, .int .u8 0, .int .u8 0, .int .u8 0, .int .u8 0, .int .u8 0, .int .u8 0, .int .u8 0, .int .u8 0] 33) = wa := by rw [hwa]; rfl
  rw [e0]
  have HQ : Hid (HasB wa w.heap.size (u8s (List.replicate 32 0)).toArray 33) := Lib.hid (by rw [hwa]; exact HasB.new _ _ _)
  have HBa : Hid (Below B w wa) := Lib.hid (by rw [hwa]; exact (Below.refl _ _).alloc (by omega) _)
  have HDa : Hid (DigL wa B g kd key (l ++ flatTo ls 0)) := Lib.hid (by
    obtain ⟨v, q1, q2⟩ := HD.out
    have hb : Below w.heap.size w wa := by rw [hwa]; exact (Below.refl _ _).alloc (Nat.le_refl _) _
    have e : l ++ flatTo ls 0 = l := by simp [flatTo]
    rw [e]
    exact ⟨v, HasB.below q1 hb hgl, own_below q2 hb (Nat.le_refl _)⟩)
  clear e0 hwa
  go_wp2_with fail
  go_loopw [9] (fun i wr => ∃ k : Nat, k ≤ n ∧ i = .int .i64 (k : Int) ∧ Hid (DigL wr B g kd key (l ++ flatTo ls k)) ∧ Hid (Below B w wr) ∧ Hid (HasB wr w.heap.size (u8s (List.replicate 32 0)).toArray 33)) (fun i _ => n - (intOf i).toNat)
  case atStart => exact ⟨0, by omega, rfl, HDa, HBa, HQ⟩
  case round =>
    clear HDa HBa HQ
    obtain ⟨k, hk, rfl, HDk, HBk, HQk⟩ := hrel
    obtain ⟨wo, rfl⟩ : ∃ wo : World, wo = wr := ⟨_, rfl⟩
    by_cases hlt : k < n
    · obtain ⟨x, hx⟩ : ∃ x, ls[k]? = some x := ⟨_, List.getElem?_eq_getElem (by omega)⟩
      obtain ⟨b0, off, b, cp, rfl, hg0, hcl0, hby0, hnilb, hlecp, hcpm⟩ := HR.out k x hx
      have hmem : x ∈ ls := by rw [List.mem_iff_getElem?]; exact ⟨k, hx⟩
      have hxl := HXl.out x hmem
      have hWo : Below w0.heap.size w0 wo := HW.out.trans (HBk.out.mono h0)
      have hcl := (hWo.cell (p := ⟨b0, off + k, none⟩) hg0).trans hcl0
      have hlen : (l ++ flatTo ls k).length ≤ 100000000 := by
        rw [List.length_append, flatTo_len]
        have := sumLen_mono ls k (n - k)
        rw [show k + (n - k) = n by omega] at this
        omega
      have HOwn : Hid (0 < x.length → ∀ ad, b = some ad → ad.block ≠ g) := Lib.hid (fun h0' ad he => by
        obtain ⟨bb, oo, he2, hlt2, _⟩ := hby0.2.2 h0'
        rw [he] at he2
        cases he2
        show bb ≠ g
        omega)
      have HBy : Hid (Bytes wo b x.length x) := Lib.hid (hby0.below hWo (Nat.le_refl _))
      have HStep : Hid (l ++ flatTo ls k ++ x = l ++ flatTo ls (k + 1)) := Lib.hid (by rw [flatTo_step hx, List.append_assoc])
      have hl8k : ∀ c ∈ l ++ flatTo ls k, c < 256 := fun c hc => by
        rcases List.mem_append.1 hc with q | q
        · exact HL8.out c q
        · exact flatTo_lt HBt.out k c q
      have HL8k := Lib.hid hl8k
      have HNl := Lib.hid hnilb
      have t1 : (k : Int) < (n : Int) := by omega
      have t2 : (0 : Int) ≤ (k : Int) := by omega
      have hBo : B ≤ wo.heap.size := by have := HBk.out.size; omega
      clear hx hby0 hcl0 hWo hl8k hnilb
      go_wp2_with fail
      refine (dadd_any B g kd key (l ++ flatTo ls k) b x.length cp x _ HDk.out hB hBo HL8k.out HBy.out HNl.out HOwn.out hxl hlen).mono ?_
      rintro e w2 ⟨rfl, hD2, hb2, hk2⟩
      have HD2 : Hid (DigL w2 B g kd key (l ++ flatTo ls (k + 1))) := Lib.hid (by rw [← HStep.out]; exact hD2)
      have HB2 := Lib.hid (HBk.out.trans hb2)
      have HQ2 := Lib.hid (hk2 w.heap.size _ _ HQk.out (by decide) (by omega))
      clear hD2 hb2 hk2
      go_wp2_with fail
      go_roundw
      case rel => exact ⟨k + 1, by omega, by go_num, HD2, HB2, HQ2⟩
      case measure => simp [intOf]; omega
    · obtain rfl : k = n := by omega
      have hlen : (l ++ flatTo ls k).length ≤ 100000000 := by rw [List.length_append, flatTo_len]; exact hnn
      have hl8k : ∀ c ∈ l ++ flatTo ls k, c < 256 := fun c hc => by
        rcases List.mem_append.1 hc with q | q
        · exact HL8.out c q
        · exact flatTo_lt HBt.out k c q
      have HL8k := Lib.hid hl8k
      have hszo : w.heap.size < wo.heap.size := HasB.lt HQk.out
      clear hl8k hlt
      go_wp2_with fail
      refine (HHs.out B g (l ++ flatTo ls k) _ HDk.out HL8k.out hlen).mono ?_
      rintro e w2 ⟨rfl, hb2⟩
      rw [← HC.out]
      have HQ1 : Hid (w2.heap[w.heap.size]? = some (.cells (u8s (List.replicate 32 0)).toArray 33 (0, 0))) := Lib.hid ((hb2.block w.heap.size hszo).trans HQk.out)
      have HSet : Hid ((w2.setRow w.heap.size C).heap[w.heap.size]? = some (.cells C 33 (0, 0)) ∧ Below B w (w2.setRow w.heap.size C)) := Lib.hid ⟨setRow_heap _ w.heap.size _ C 33 (0, 0) HQ1.out, below_setRow (HBk.out.trans (hb2.mono (by omega))) (by omega) C⟩
      clear hb2
      go_wp2_with (with_reducible refine wpList_store_row rfl 33 (.tmp 4) (.tmp 20) rfl w.heap.size C rfl rfl 33 _ HQ1.out HI.out HOld.out HOne.out ?_)
      exact bodyPost_ret (results_cell_row (p := 4) (by kernel_rfl) _ _ w.heap.size 33 C (0, 0) _ rfl HSet.out.1 Try.underlying33 rfl HI.out) rfl ⟨rfl, HSet.out.2⟩

theorem all0_any (key : List Nat) (B g : Nat) (l : List Nat) (a : Option Addr) (n cap : Nat) (ls : List (List Nat)) (w0 w : World) (h : DigL w B g false key l) (hB : B ≤ g) (hR : RowsR w0 a ls) (hW : Below w0.heap.size w0 w) (h0 : w0.heap.size ≤ B) (hl : ls.length = n) (hb : ∀ x ∈ ls, ∀ c ∈ x, c < 256) (hx : ∀ x ∈ ls, x.length ≤ 100000) (hl8 : ∀ c ∈ l, c < 256) (hnn : l.length + sumLen ls n ≤ 100000000) (hn : n ≤ 1000000) :
    Calls Try.prog 35 #[.pointer (some ⟨g, 0, none⟩), .slice a n cap] w fun e w' => e = .returned (.agg (u8s (shaL (l ++ flatTo ls n))).toArray) ∧ Below B w w' :=
  all_gen false key (fun B g l w h h8 hl => sum0_any B g key l w h h8 hl) B g l a n cap ls w0 w h hB hR hW h0 hl hb hx hl8 hnn hn

set_option maxRecDepth 100000 in
set_option maxHeartbeats 4000000 in
theorem of_any (a : Option Addr) (n cap : Nat) (ls : List (List Nat)) (w : World) (hR : RowsR w a ls) (hl : ls.length = n) (hb : ∀ x ∈ ls, ∀ c ∈ x, c < 256) (hx : ∀ x ∈ ls, x.length ≤ 100000) (hnn : sumLen ls n ≤ 100000000) (hn : n ≤ 1000000) :
    Calls Try.prog 42 #[.slice a n cap] w fun e w' => e = .returned (.agg (u8s (shaL (flatTo ls n))).toArray) ∧ Below w.heap.size w w' := by
  have HR := Lib.hid hR
  have HBt := Lib.hid hb
  have HXl := Lib.hid hx
  obtain ⟨C, hC⟩ : ∃ C, C = (u8s (shaL (flatTo ls n))).toArray := ⟨_, rfl⟩
  have hCs : C.size = 32 := by rw [hC]; simp [u8s_len, shaL_len]
  have HI : Hid ((Try.prog.info? 33).map (·.size) = some C.size) := Lib.hid (by rw [hCs]; exact info_s32)
  have HOne : Hid (C.all (·.oneCell') = true) := Lib.hid (by
    rw [hC]
    simp only [List.all_toArray, List.all_eq_true]
    exact u8s_one _)
  have HOld : Hid ((u8s (List.replicate 32 0)).toArray.size = C.size) := Lib.hid (by rw [hCs]; rfl)
  have HC := Lib.hid hC
  rw [← hC]
  clear hR hb hx hC hCs
  go_enter Try.func42, Try.ntmps42
  go_wp2_with fail
  obtain ⟨wa, hwa⟩ : ∃ wa, wa = w.alloc (.cells (u8s (List.replicate 32 0)).toArray 33) := ⟨_, rfl⟩
  have e0 : w.alloc (.cells #[.int .u8 0, .int .u8 0, .int .u8 0, .int .u8 0, .int .u8 0, .int .u8 0, .int .u8 0, .int .u8 0, .int .u8 0, .int .u8 0, .int .u8 0, .int .u8 0, .int .u8 0, .int .u8 0, .int .u8 0, .int .u8 0, .int .u8 0, .int .u8 0, .int .u8 0, .int .u8 0, .int .u8 0, .int .u8 0, .int .u8 0, .int .u8 0, .int .u8 0, .int .u8 0, .int .u8 0, .int .u8 0, .int .u8 0, .int .u8 0, .int .u8 0, .int .u8 0] 33) = wa := by rw [hwa]; rfl
  rw [e0]
  have HQ : Hid (HasB wa w.heap.size (u8s (List.replicate 32 0)).toArray 33) := Lib.hid (by rw [hwa]; exact HasB.new _ _ _)
  have HBa : Hid (Below w.heap.size w wa) := Lib.hid (by rw [hwa]; exact (Below.refl _ _).alloc (Nat.le_refl _) _)
  have hsz : wa.heap.size = w.heap.size + 1 := by rw [hwa]; simp
  have HSz := Lib.hid hsz
  clear e0 hwa hsz
  go_wp2_with fail
  refine (snew_any _).mono ?_
  rintro e w1 ⟨rfl, hD1, hb1⟩
  have HD1 := Lib.hid hD1
  have HB1 := Lib.hid (HBa.out.trans (hb1.mono (by have := HSz.out; omega)))
  have HQ1 : Hid (HasB w1 w.heap.size (u8s (List.replicate 32 0)).toArray 33) := Lib.hid (HasB.below HQ.out hb1 (by have := HSz.out; omega))
  clear hD1 hb1
  go_wp2_with fail
  refine (all0_any zeros64 wa.heap.size wa.heap.size [] a n cap ls w w1 HD1.out (Nat.le_refl _) HR.out HB1.out (by have := HSz.out; omega) hl HBt.out HXl.out (by simp) (by simpa using hnn) hn).mono ?_
  rintro e w2 ⟨rfl, hb2⟩
  rw [List.nil_append, ← HC.out]
  have HQ2 : Hid (w2.heap[w.heap.size]? = some (.cells (u8s (List.replicate 32 0)).toArray 33 (0, 0))) := Lib.hid ((hb2.block w.heap.size (by have := HSz.out; omega)).trans HQ1.out)
  have HSet : Hid ((w2.setRow w.heap.size C).heap[w.heap.size]? = some (.cells C 33 (0, 0)) ∧ Below w.heap.size w (w2.setRow w.heap.size C)) := Lib.hid ⟨setRow_heap _ w.heap.size _ C 33 (0, 0) HQ2.out, below_setRow (HB1.out.trans (hb2.mono (by have := HSz.out; omega))) (Nat.le_refl _) C⟩
  clear hb2
  go_wp2_with (with_reducible refine wpList_store_row rfl 33 (.tmp 2) (.tmp 5) rfl w.heap.size C rfl rfl 33 _ HQ2.out HI.out HOld.out HOne.out ?_)
  exact bodyPost_ret (results_cell_row (p := 2) (by kernel_rfl) _ _ w.heap.size 33 C (0, 0) _ rfl HSet.out.1 Try.underlying33 rfl HI.out) rfl ⟨rfl, HSet.out.2⟩

end Go.Proofs.Ytkdjimcpdbpemaa
