/- nand: raw. -/
import Derived.Test.YtbbhniohliklhaaNandD
namespace Go.Proofs.Ytbbhniohliklhaa
open Go Go.RowKit
set_option linter.unusedVariables false

/-- A page's bytes, told. -/
def NF.raw (F : NF) (l : List Nat) : List Nat := if l = [] then List.replicate (F.ch * 73) 255 else l
/-- A page that is right: none, or whole. -/
def pgOk (ch : Nat) (l : List Nat) : Prop := (l = [] ∨ l.length = ch * 73) ∧ ∀ c ∈ l, c < 256
theorem NF.raw_len {F : NF} {l : List Nat} (h : pgOk F.ch l) : (F.raw l).length = F.ch * 73 := by
  unfold NF.raw
  split
  · simp
  · rcases h.1 with q | q
    · contradiction
    · exact q
theorem NF.raw_lt {F : NF} {l : List Nat} (h : pgOk F.ch l) : ∀ c ∈ F.raw l, c < 256 := by
  unfold NF.raw
  split
  · intro c hc; rw [List.eq_of_mem_replicate hc]; omega
  · exact h.2

set_option maxRecDepth 100000 in
set_option maxHeartbeats 2000000 in
theorem nraw_any {M : NMem} {S : Zone} {g : Nat} {F : NF} {ex : Nat → Nat → Bool} (n p : Nat) (x : NB) (l : List Nat) (w : World) (h : FlashX M S w g F ex) (hx : F.bl[n]? = some x) (hl : x.pages[p]? = some l) (hex : ex n p = false) (hok : pgOk F.ch l) (hc1 : 1 ≤ F.ch) (hc8 : F.ch ≤ 8) :
    Calls Try.prog 31 #[.pointer (some ⟨g, 0, none⟩), .pointer (some ⟨M.gl, 5 * n, none⟩), .int .i64 (p : Int)] w fun e w' => (∃ v, e = .returned v ∧ w'.ownsRow w.heap.size 5 1 v (F.ch * 73) (u8s (F.raw l))) ∧ Below w.heap.size w w' := by
  obtain ⟨POST, hPOST⟩ : ∃ Q : Ending → World → Prop, Q = fun e w' => (∃ v, e = .returned v ∧ w'.ownsRow w.heap.size 5 1 v (F.ch * 73) (u8s (F.raw l))) ∧ Below w.heap.size w w' := ⟨_, rfl⟩
  rw [← hPOST]
  have HPOST := Lib.hid hPOST
  clear hPOST
  obtain ⟨-, -, -, -, -, c5, -⟩ := h.gcells
  obtain ⟨b0, -⟩ := h.bcells hx
  have p0 := h.pcell hx hl
  obtain ⟨hpl, D, -, hDs, hD⟩ := h.pgs n x hx
  have hpv := (hD p l hl).2 hex
  have hplt : p < F.np := by rw [← hpl]; exact (List.getElem?_eq_some_iff.1 hl).1
  have t1 : (0 : Int) ≤ (p : Int) ∧ (p : Int) < (F.np : Int) := by omega
  obtain ⟨q, hq⟩ : ∃ q, q = 5 * n := ⟨_, rfl⟩
  rw [← hq] at b0 ⊢
  have heq := fun w a len cap => Lib.run_eql_slice_nil (P := Try.prog) w 29 5 a len cap 0 0 Try.underlying29
  generalize hpg : M.pg n = pgn at *
  generalize hvs : M.vs n p = v at *
  rcases hpv with ⟨rfl, rfl⟩ | ⟨hl0, hown, _⟩
  · have HR : Hid (F.raw [] = List.replicate (F.ch * 73) 255) := Lib.hid (by unfold NF.raw; rw [if_pos rfl])
    generalize F.ch = ch at *
    generalize F.np = np at *
    obtain ⟨N, hN⟩ : ∃ N, N = ch * 73 := ⟨_, rfl⟩
    have i1 : (ch : Int) * 73 = (N : Int) := by omega
    have hN1 : 1 ≤ N := by omega
    have hN2 : N ≤ 1000 := by omega
    rw [← hN] at HR HPOST
    have HB1 : Hid (Below w.heap.size w (w.alloc (.cells #[.int .u8 255] 5))) := Lib.hid ((Below.refl _ _).alloc (Nat.le_refl _) _)
    have c5' : (w.alloc (.cells #[.int .u8 255] 5)).cell? ⟨g, 5, none⟩ = some (.int .i64 (ch : Int)) := (HB1.out.cell (p := ⟨g, 5, none⟩) (block_lt_of_cell c5)).trans c5
    have HBy : Hid (Bytes (w.alloc (.cells #[.int .u8 255] 5)) (some ⟨w.heap.size, 0, none⟩) 1 [255]) := Lib.hid (bytes_lit1 (by decide))
    clear h hx hl hok hD hpl hDs hplt hN hpg hvs hq
    go_enter Try.func31, Try.ntmps31
    go_wp2_with fail
    refine (nrepeat_any w.heap.size N _ HBy.out hN1 hN2).mono ?_
    rintro e w2 ⟨⟨v, rfl, hown⟩, hb2⟩
    have HO : Hid (w2.ownsRow w.heap.size 5 1 v N (u8s (List.replicate N 255))) := Lib.hid (by
      refine ⟨hown.1, hown.2.imp id ?_⟩
      rintro ⟨g', cap, cur, e1, e2, r⟩
      exact ⟨g', cap, cur, e1, by simp at e2; omega, r⟩)
    have HB2 : Hid (Below w.heap.size w w2) := Lib.hid (HB1.out.trans (hb2.mono HB1.out.size))
    clear hown hb2
    go_wp2_with fail
    rw [HPOST.out]
    exact ⟨⟨_, rfl, by rw [HR.out]; exact HO.out⟩, HB2.out⟩
  · have hne : l ≠ [] := by intro e; rw [e] at hl0; simp at hl0
    have HR : Hid (F.raw l = l ∧ l.length = F.ch * 73) := Lib.hid ⟨by unfold NF.raw; rw [if_neg hne], by
      rcases hok.1 with q | q
      · contradiction
      · exact q⟩
    obtain ⟨g', cap, rfl⟩ := own_shape hown hl0
    have HBy := Lib.hid (bytes_of_own hown hok.2)
    have hll : l.length ≤ 1000000 := by rw [HR.out.2]; omega
    generalize F.ch = ch at *
    generalize F.np = np at *
    obtain ⟨N, hN⟩ : ∃ N, N = l.length := ⟨_, rfl⟩
    rw [← hN] at HBy hll p0 HR
    clear h hx hl hok hD hpl hDs hplt hpg hvs hq hown hl0 hN
    go_enter Try.func31, Try.ntmps31
    go_wp2_with fail
    refine (nclone_any ⟨g', 0, none⟩ N cap l _ HBy.out hll).mono ?_
    rintro e w2 ⟨⟨v, rfl, hown⟩, hb2⟩
    have HO := Lib.hid hown
    have HB2 := Lib.hid hb2
    clear hown hb2
    go_wp2_with fail
    rw [HPOST.out]
    exact ⟨⟨_, rfl, by rw [HR.out.1, ← HR.out.2]; exact HO.out⟩, HB2.out⟩
end Go.Proofs.Ytbbhniohliklhaa
