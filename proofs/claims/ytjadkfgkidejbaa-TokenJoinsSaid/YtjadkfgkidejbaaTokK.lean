/- token: Join. -/
import Derived.Test.YtjadkfgkidejbaaTokJ
import Derived.Test.YtjadkfgkidejbaaHeld
import Derived.Laws.Tables
import Derived.OneCell
namespace Go.Proofs.Ytjadkfgkidejbaa
open Go.RowKit
set_option linter.unusedVariables false

theorem own_mono {w : World} {base base' : Nat} {e : TypeId} {size : Nat} {v : Value} {n : Nat} {xs : List Value} (h : w.ownsRow base e size v n xs) (hb : base' ≤ base) : w.ownsRow base' e size v n xs :=
  ⟨h.1, h.2.imp id fun ⟨g, cap, cur, h1, h2, r⟩ => ⟨g, cap, cur, h1, Nat.le_trans hb h2, r⟩⟩

def joinTo (ls : List (List Nat)) (k : Nat) : List Nat := (ls.take k).flatMap layL
theorem joinTo_succ (ls : List (List Nat)) (k : Nat) (x : List Nat) (h : ls[k]? = some x) : joinTo ls (k + 1) = joinTo ls k ++ layL x := by
  have hk : k < ls.length := (List.getElem?_eq_some_iff.1 h).1
  have hx : ls[k] = x := (List.getElem?_eq_some_iff.1 h).2
  unfold joinTo
  rw [List.take_succ_eq_append_getElem hk, List.flatMap_append, hx]
  simp

/-- What Join holds behind k blocks: the box, a row of its own behind. -/
def JoinAt (w0 : World) (ls : List (List Nat)) (k : Nat) (w : World) : Prop :=
  ∃ v, w.heap[w0.heap.size]? = some (.cells #[v] 24 (0, 0)) ∧ w.ownsRow (w0.heap.size + 1) 5 1 v (joinTo ls k).length (u8s (joinTo ls k)) ∧ Below w0.heap.size w0 w
theorem JoinAt.below {w0 : World} {ls : List (List Nat)} {k : Nat} {w w' : World} (h : JoinAt w0 ls k w) (hb : Below w.heap.size w w') : JoinAt w0 ls k w' := by
  obtain ⟨v, h1, h2, h3⟩ := h
  have hlt := lt_of_block h1
  exact ⟨v, (hb.block w0.heap.size hlt).trans h1, own_below h2 hb (Nat.le_refl _), h3.trans (hb.mono (by omega))⟩

theorem joinAt_next {w0 : World} {ls : List (List Nat)} {k : Nat} {x : List Nat} {v v' : Value} {w w1 w2 : World} (hx : ls[k]? = some x) (h1 : w.heap[w0.heap.size]? = some (.cells #[v] 24 (0, 0))) (h2 : w.ownsRow (w0.heap.size + 1) 5 1 v (joinTo ls k).length (u8s (joinTo ls k))) (h3 : Below w0.heap.size w0 w)
    (hb : Below w.heap.size w w1) (hg : w1.grownBy w2 v.ownBlock) (hown : w2.ownsRow (w0.heap.size + 1) 5 1 v' ((joinTo ls k).length + (x.length + 3)) (u8s (joinTo ls k ++ layL x))) :
    w2.heap[w0.heap.size]? = some (.cells #[v] 24 (0, 0)) ∧ JoinAt w0 ls (k + 1) (w2.setCell ⟨w0.heap.size, 0, none⟩ v') := by
  have hlt := lt_of_block h1
  have hlt1 : w0.heap.size < w1.heap.size := Nat.lt_of_lt_of_le hlt hb.size
  have hne : some w0.heap.size ≠ v.ownBlock := by
    intro h
    have := (h2.lt _ h.symm).1
    omega
  have hbox : w2.heap[w0.heap.size]? = some (.cells #[v] 24 (0, 0)) := ((hg.block _ hlt1 hne).trans (hb.block _ hlt)).trans h1
  have hne2 : v'.ownBlock ≠ some w0.heap.size := by
    intro h
    have := (hown.lt _ h).1
    omega
  refine ⟨hbox, v', one_setCell hbox, ?_, ?_⟩
  · rw [joinTo_succ ls k x hx]
    have h9 := ownsRow_setCell_other hown (a := ⟨w0.heap.size, 0, none⟩) hne2 v'
    rwa [show (joinTo ls k ++ layL x).length = (joinTo ls k).length + (x.length + 3) by simp [layL_len]]
  · have hb1 : Below w0.heap.size w0 w1 := h3.trans (hb.mono (by omega))
    have hb2 : Below w0.heap.size w0 w2 := hb1.grown hg (by omega) (fun j hj => by have := (h2.lt j hj).1; omega)
    exact hb2.setCell (Nat.le_refl _) v'

set_option maxRecDepth 100000 in
set_option maxHeartbeats 4000000 in
theorem joinStep_any (w0 : World) (ls : List (List Nat)) (hls : ∀ x ∈ ls, ∀ c ∈ x, c < 256) (k m : Nat) (x : List Nat) (b : Option Addr) (cp : Nat) (w : World) (hx : ls[k]? = some x) (hm : x.length = m) (hxl : m ≤ 1000000) (hkl : (joinTo ls k).length ≤ 100000000)
    (hI : JoinAt w0 ls k w) (hy : Bytes w b m x) (hnil : b = none → cp = 0) :
    Calls Try.prog 81 #[.int .i64 (k : Nat), .slice b m cp, .pointer (some ⟨w0.heap.size, 0, none⟩)] w fun e w' => e = .returned (.bool true) ∧ JoinAt w0 ls (k + 1) w' := by
  obtain ⟨v, h1, h2, h3⟩ := hI
  have hlt := lt_of_block h1
  have HY := Lib.hid hy
  have H1 := Lib.hid h1
  have H2 := Lib.hid h2
  have H3 := Lib.hid h3
  have HLt := Lib.hid (layL_lt x hy.2.1)
  have c0 := cell_of_one h1
  have hsz0 := h3.size
  obtain ⟨L, hL⟩ : ∃ L, L = (joinTo ls k).length := ⟨_, rfl⟩
  have HL := Lib.hid hL
  rw [← hL] at hkl
  have HX := Lib.hid hx
  have HM := Lib.hid hm
  clear h1 h2 h3 hy hL hx hm
  go_enter Try.func81, Try.ntmps81
  go_wp2_with fail
  go_region_law (first
    | (refine step_app_u8 rfl (.tmp 6) (.tmp 8) 24 rfl (w0.heap.size + 1) 5 Try.underlying24 Try.infoU8 v L (joinTo ls k) rfl HOa.out (some ⟨gl, 0, none⟩) (m + 3) cl (layL x) rfl HLay.out (by simp) (by omega) (by omega) ?_
       intro v' w2 hown hgrow
       obtain ⟨a', c', rfl⟩ := own_form hown
       have hnx := joinAt_next HX.out H1.out H2.out H3.out HBl.out hgrow (by rw [HM.out, ← HL.out]; exact hown)
       have HNx := Lib.hid hnx.2
       have c1 := cell_of_one hnx.1
       have f1 := free_of_one hnx.1
       clear hown hgrow hnx)
    | (go_simp
       refine Calls.mono (lay_any b m cp x _ HY.out.drew hnil hxl) ?_
       rintro e wl ⟨⟨gl, cl, rfl, hown⟩, hb⟩
       have HLay := Lib.hid (bytes_of_own hown HLt.out)
       have HBl : Hid (Below w.heap.size w wl) := Lib.hid ((Below.refl _ _).drew.trans hb)
       have HOa : Hid (wl.ownsRow (w0.heap.size + 1) 5 1 v L (u8s (joinTo ls k))) := Lib.hid (by rw [HL.out]; exact own_below H2.out HBl.out (Nat.le_refl _))
       have cl0 : wl.cell? ⟨w0.heap.size, 0, none⟩ = some v := (HBl.out.cell (p := ⟨w0.heap.size, 0, none⟩) hlt).trans c0
       have hszl := HBl.out.size
       clear hown hb))
  all_goals
    go_wp2
    go_ret
    exact ⟨rfl, HNx.out⟩

theorem joinTo_mono (ls : List (List Nat)) (k d : Nat) : (joinTo ls k).length ≤ (joinTo ls (k + d)).length := by
  unfold joinTo
  rw [List.take_add, List.flatMap_append, List.length_append]
  omega

set_option maxRecDepth 100000 in
set_option maxHeartbeats 4000000 in
theorem join_any (a : Option Addr) (n cap : Nat) (ls : List (List Nat)) (w : World) (hR : RowsR w a ls) (hn : ls.length = n) (hln : n ≤ 1000000) (hll : ∀ x ∈ ls, x.length ≤ 1000000) (hls : ∀ x ∈ ls, ∀ c ∈ x, c < 256) (hj : (joinTo ls n).length ≤ 100000000) :
    Calls Try.prog 16 #[.slice a n cap] w fun e w' => (∃ v, e = .returned v ∧ w'.ownsRow w.heap.size 5 1 v (joinTo ls n).length (u8s (joinTo ls n))) ∧ Below w.heap.size w w' := by
  have H0 : JoinAt w ls 0 (w.alloc (.cells #[.slice none 0 0] 24)) :=
    ⟨.slice none 0 0, heap_alloc_new w _, ⟨rfl, .inl ⟨rfl, rfl⟩⟩, (Below.refl _ _).alloc (Nat.le_refl _) _⟩
  have HE := fun (W : World) (hW : JoinAt w ls 0 W) => each_any 81 #[.pointer (some ⟨w.heap.size, 0, none⟩)] (fun args w' => by go_simp) a n cap ls hn hln hll (fun _ => true) (JoinAt w ls) (fun i w1 w2 h hb => h.below hb) (fun i w1 h => by
      obtain ⟨v, h1, h2, h3⟩ := h
      exact hR.below h3)
    (fun i x v w1 hx hI hv => by
      obtain ⟨b, cp, rfl, hy, hnil, _⟩ := hv
      have hil : i < ls.length := (List.getElem?_eq_some_iff.1 hx).1
      have hxm : x ∈ ls := by rw [← (List.getElem?_eq_some_iff.1 hx).2]; exact List.getElem_mem _
      have hm := joinTo_mono ls i (n - i)
      rw [show i + (n - i) = n by omega] at hm
      exact joinStep_any w ls hls i x.length x b cp w1 hx rfl (hll x hxm) (by omega) hI hy hnil) W hW
  have HE2 := Lib.hid HE
  have H02 := Lib.hid H0
  clear HE H0
  go_enter Try.func16, Try.ntmps16
  go_wp2_with (go_at_call 19; refine (HE2.out _ H02.out).mono ?_; rintro e w1 ⟨rfl, j, hjn, hI, ho, _⟩; obtain rfl : j = n := (by rcases ho with q | ⟨i, _, q⟩; exact q; cases q); obtain ⟨v, h1, h2, h3⟩ := hI; have c0 := cell_of_one h1; have HO := Lib.hid h2; have HB := Lib.hid h3; clear h1 h2 h3)
  go_ret
  exact ⟨⟨v, rfl, own_mono HO.out (by omega)⟩, HB.out⟩

end Go.Proofs.Ytjadkfgkidejbaa
