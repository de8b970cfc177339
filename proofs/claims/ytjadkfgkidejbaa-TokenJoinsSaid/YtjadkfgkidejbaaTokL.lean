/- token: the law's closure. -/
import Derived.Test.YtjadkfgkidejbaaTokK
namespace Go.Proofs.Ytjadkfgkidejbaa
open Go.RowKit
set_option linter.unusedVariables false

/-- Behind k calls of the law's closure: the two boxes, laid behind w0. -/
def EachAt (w0 : World) (k : Nat) (w : World) : Prop :=
  w.heap[w0.heap.size]? = some (.cells #[.int .i64 (k : Nat)] 3 (0, 0)) ∧ w.heap[w0.heap.size + 1]? = some (.cells #[.bool true] 4 (0, 0)) ∧ Below w0.heap.size w0 w
theorem EachAt.below {w0 : World} {k : Nat} {w w' : World} (h : EachAt w0 k w) (hb : Below w.heap.size w w') : EachAt w0 k w' := by
  obtain ⟨h1, h2, h3⟩ := h
  exact ⟨(hb.block _ (lt_of_block h1)).trans h1, (hb.block _ (lt_of_block h2)).trans h2, h3.trans (hb.mono (by have := lt_of_block h1; omega))⟩

theorem EachAt.next {w0 : World} {k : Nat} {w : World} (h : EachAt w0 k w) : EachAt w0 (k + 1) ((w.setCell ⟨w0.heap.size + 1, 0, none⟩ (.bool true)).setCell ⟨w0.heap.size, 0, none⟩ (.int .i64 ((k : Int) + 1))) := by
  obtain ⟨h1, h2, h3⟩ := h
  have h1' : (w.setCell ⟨w0.heap.size + 1, 0, none⟩ (.bool true)).heap[w0.heap.size]? = some (.cells #[.int .i64 (k : Nat)] 3 (0, 0)) := (Below.heap_setCell _ _ _ _ (by simp)).trans h1
  refine ⟨one_setCell h1', ?_, (h3.setCell (by simp) _).setCell (Nat.le_refl _) _⟩
  exact (Below.heap_setCell _ _ _ _ (by simp)).trans (one_setCell h2)
theorem EachAt.drew {w0 : World} {k : Nat} {w : World} (h : EachAt w0 k w) : EachAt w0 k w.drew := ⟨h.1, h.2.1, h.2.2.drew⟩

set_option maxRecDepth 100000 in
set_option maxHeartbeats 4000000 in
theorem eachStep_any (w0 : World) (a : Option Addr) (n cap : Nat) (ls : List (List Nat)) (hn : ls.length = n) (hln : n ≤ 1000000) (hR : RowsR w0 a ls) (ga gs : Nat) (stop : Int) (hga : w0.heap[ga]? = some (.cells #[.slice a n cap] 22 (0, 0))) (hgs : w0.heap[gs]? = some (.cells #[.int .i64 stop] 3 (0, 0))) (k m : Nat) (x : List Nat) (b : Option Addr) (cp : Nat) (w : World) (hx : ls[k]? = some x) (hm : x.length = m)
    (hI : EachAt w0 k w) (hy : Bytes w b m x) :
    Calls Try.prog 20 #[.int .i64 (k : Nat), .slice b m cp, .pointer (some ⟨w0.heap.size + 1, 0, none⟩), .pointer (some ⟨w0.heap.size, 0, none⟩), .pointer (some ⟨ga, 0, none⟩), .pointer (some ⟨gs, 0, none⟩)] w fun e w' => e = .returned (.bool (decide ((k : Int) + 1 ≤ stop))) ∧ EachAt w0 (k + 1) w' := by
  have HNx := Lib.hid hI.next
  obtain ⟨h1, h2, h3⟩ := hI
  have hkn : k < n := by rw [← hn]; exact (List.getElem?_eq_some_iff.1 hx).1
  obtain ⟨g, off, b2, cp2, rfl, hg, hc, hy2, _⟩ := (hR.below h3) k x hx
  have hga2 := (h3.block ga (lt_of_block hga)).trans hga
  have hgs2 := (h3.block gs (lt_of_block hgs)).trans hgs
  have lk := lt_of_block h1
  have lok := lt_of_block h2
  have la := lt_of_block hga
  have ls2 := lt_of_block hgs
  have ck := cell_of_one h1
  have cok := cell_of_one h2
  have ca := cell_of_one hga2
  have cs := cell_of_one hgs2
  have fk := free_of_one h1
  have fok := free_of_one h2
  have s1 := run_str (P := Try.prog) hy.drew 24 5 9 Try.underlying24 Try.underlying5 Try.underlying9 cp
  rw [hm] at hc hy2
  have s2 := run_str (P := Try.prog) hy2.drew 24 5 9 Try.underlying24 Try.underlying5 Try.underlying9 cp2
  have H1 := Lib.hid h1
  have H2 := Lib.hid h2
  have H3 := Lib.hid h3
  have t1 : (k : Int) < (n : Int) := by omega
  have t2 : (0 : Int) ≤ (k : Int) := by omega
  have t3 : ((k : Int)).toNat = k := by omega
  have d1 : ga ≠ w0.heap.size := by omega
  have d2 : gs ≠ w0.heap.size := by omega
  have d3 : ga ≠ w0.heap.size + 1 := by omega
  have d4 : gs ≠ w0.heap.size + 1 := by omega
  obtain ⟨g1, hg1⟩ : ∃ g1, g1 = w0.heap.size := ⟨_, rfl⟩
  obtain ⟨g2, hg2⟩ : ∃ g2, g2 = w0.heap.size + 1 := ⟨_, rfl⟩
  clear hy hy2 h1 h2 h3 hga hgs hga2 hgs2 hx hm hn
  go_enter Try.func20, Try.ntmps20
  go_wp2_with fail
  go_still_tail 22, (by kernel_rfl)
  change wpList _ _ _ _ _ w.drew
  go_wp2
  go_ret
  exact ⟨rfl, HNx.out.drew⟩

end Go.Proofs.Ytjadkfgkidejbaa
