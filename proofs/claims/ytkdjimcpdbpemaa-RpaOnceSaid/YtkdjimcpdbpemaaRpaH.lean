/- rpa: New: the walk. -/
import Derived.Test.YtkdjimcpdbpemaaRpaG
namespace Go.Proofs.Ytkdjimcpdbpemaa
open Go Go.RowKit
set_option linter.unusedVariables false

def arPl : Array (Nat × Nat) := #[(0, 1), (1, 34), (35, 1), (36, 1), (37, 67)]
def RA.zero : RA := ⟨0, RS.zero, .none, .none, RP.zero⟩
theorem built_area (parts : List (Nat × Value)) : Try.prog.built 69 parts = Instr.fill (arPl[·]?) RA.zero.cells.toArray parts := by kernel_rfl
def RA.new (p : Int) (s : RS) : RA := ⟨p, s, .none, .none, RP.zero⟩
theorem RA.new_ok {p : Int} {s : RS} (hp : 1 ≤ p ∧ p ≤ 256) (hs : s.Ok) : (RA.new p s).Ok := ⟨hp, hs, trivial, trivial, RP.zero_ok⟩
theorem built_new (p : Int) (s : RS) (hs : s.Ok) : Try.prog.built 69 [(0, .int .i64 p), (1, .agg s.cells.toArray)] = some (RA.new p s).cells.toArray := by
  rw [built_area, fill_step _ RA.zero.cells 0 _ _ 0 1 [.int .i64 p] rfl rfl rfl (by show 0 + 1 ≤ 104; decide), splice_one _ _ _ (by show 0 < 104; decide)]
  have e : RA.zero.cells.set 0 (.int .i64 p) = [.int .i64 p] ++ (RS.zero.cells ++ ([.nilIface, .nilIface] ++ RP.zero.cells)) := rfl
  have e1 := fill_step (arPl[·]?) ([.int .i64 p] ++ (RS.zero.cells ++ ([.nilIface, .nilIface] ++ RP.zero.cells))) 1 (.agg s.cells.toArray) [] 1 34 s.cells rfl rfl (RS.len hs) (by show 1 + 34 ≤ 104; decide)
  rw [splice_mid [Value.int .i64 p] RS.zero.cells _ s.cells (o := 1) rfl (by rw [RS.len hs]; rfl)] at e1
  rw [e, e1]
  rfl
theorem zero_arr (w : World) : (binOp .neq 22 (.agg (u8s (List.replicate 32 0)).toArray) (.agg #[Value.int IntKind.u8 0, Value.int IntKind.u8 0, Value.int IntKind.u8 0, Value.int IntKind.u8 0, Value.int IntKind.u8 0, Value.int IntKind.u8 0, Value.int IntKind.u8 0, Value.int IntKind.u8 0, Value.int IntKind.u8 0, Value.int IntKind.u8 0, Value.int IntKind.u8 0, Value.int IntKind.u8 0, Value.int IntKind.u8 0, Value.int IntKind.u8 0, Value.int IntKind.u8 0, Value.int IntKind.u8 0, Value.int IntKind.u8 0, Value.int IntKind.u8 0, Value.int IntKind.u8 0, Value.int IntKind.u8 0, Value.int IntKind.u8 0, Value.int IntKind.u8 0, Value.int IntKind.u8 0, Value.int IntKind.u8 0, Value.int IntKind.u8 0, Value.int IntKind.u8 0, Value.int IntKind.u8 0, Value.int IntKind.u8 0, Value.int IntKind.u8 0, Value.int IntKind.u8 0, Value.int IntKind.u8 0, Value.int IntKind.u8 0])).run Try.prog w = .ok (.bool false) w := by kernel_rfl

set_option maxRecDepth 100000 in
set_option maxHeartbeats 4000000 in
theorem new_has (p : Int) (s : RS) (w : World) (hp : 1 ≤ p ∧ p ≤ 256) (hs : s.Ok) (hh : s.has = true) :
    Calls Try.prog 9 #[.int .i64 p, s.val] w fun e w' => ∃ g, e = .returned (.tuple #[.pointer (some ⟨g, 0, none⟩), .int .i64 0]) ∧ w.heap.size ≤ g ∧ AreaAt w' g (RA.new p s) ∧ Below w.heap.size w w' := by
  obtain ⟨POST, hPOST⟩ : ∃ Q : Ending → World → Prop, Q = fun e w' => ∃ g, e = .returned (.tuple #[.pointer (some ⟨g, 0, none⟩), .int .i64 0]) ∧ w.heap.size ≤ g ∧ AreaAt w' g (RA.new p s) ∧ Below w.heap.size w w' := ⟨_, rfl⟩
  rw [← hPOST]
  have HPOST := Lib.hid hPOST
  have hbld := built_new p s hs
  unfold RS.val
  obtain ⟨C, hC⟩ : ∃ C, C = s.cells.toArray := ⟨_, rfl⟩
  obtain ⟨N, hN⟩ : ∃ N, N = (RA.new p s).cells.toArray := ⟨_, rfl⟩
  rw [← hC, ← hN] at hbld
  have HBld := Lib.hid hbld
  rw [← hC]
  have HN := Lib.hid hN
  have HQ : Hid ((w.alloc (.cells C 31)).heap[w.heap.size]? = some (.cells C 31 (0, 0))) := Lib.hid (HasB.new w _ _)
  have hx : (w.alloc (.cells C 31)).cell? ⟨w.heap.size, 32, none⟩ = some (.bool true) := by
    rw [(HasB.new w C _).at, hC, ← hh]
    simp [RS.cells, u8s_len, hs.kl]
  have HI : Hid ((Try.prog.info? 31).map (·.size) = some C.size) := Lib.hid (by rw [hC, List.size_toArray, RS.len hs]; exact info_st)
  have p1 : ¬ p < 1 := by omega
  have p2 : ¬ 256 < p := by omega
  have hb1 : Below w.heap.size w (w.alloc (.cells C 31)) := (Below.refl _ _).alloc (Nat.le_refl _) _
  have hs1 : w.heap.size ≤ (w.alloc (.cells C 31)).heap.size := hb1.size
  have HB1 := Lib.hid hb1
  have HS1 := Lib.hid hs1
  clear hC hN hs hp hPOST hbld hb1 hs1 hh
  go_enter Try.func9, Try.ntmps9
  go_wp2_with (first | (with_reducible refine wpList_load_row rfl 31 (.tmp 3) rfl w.heap.size rfl 31 C (0, 0) _ HQ.out Try.underlying31 rfl HI.out ?_) | (with_reducible refine stop_build 69 _ rfl ?_))
  refine Stop.go ?_
  refine wpList_buildTo rfl 69 _ rfl _ rfl N ?_ ?_
  · rw [List.map_toArray]; exact HBld.out
  go_wp2
  rw [HPOST.out]
  refine ⟨_, rfl, Nat.le_succ _, ?_, HB1.out.alloc HS1.out _⟩
  rw [HN.out]
  exact HasB.new' (by simp) _ _

set_option maxRecDepth 100000 in
set_option maxHeartbeats 4000000 in
theorem new_zero (p : Int) (w : World) (hp : 1 ≤ p ∧ p ≤ 256) :
    Calls Try.prog 9 #[.int .i64 p, RS.zero.val] w fun e w' => ∃ g, e = .returned (.tuple #[.pointer (some ⟨g, 0, none⟩), .int .i64 0]) ∧ w.heap.size ≤ g ∧ AreaAt w' g (RA.new p RS.zero) ∧ Below w.heap.size w w' := by
  obtain ⟨POST, hPOST⟩ : ∃ Q : Ending → World → Prop, Q = fun e w' => ∃ g, e = .returned (.tuple #[.pointer (some ⟨g, 0, none⟩), .int .i64 0]) ∧ w.heap.size ≤ g ∧ AreaAt w' g (RA.new p RS.zero) ∧ Below w.heap.size w w' := ⟨_, rfl⟩
  rw [← hPOST]
  have HPOST := Lib.hid hPOST
  have hbld := built_new p RS.zero RS.zero_ok
  unfold RS.val
  obtain ⟨C, hC⟩ : ∃ C, C = RS.zero.cells.toArray := ⟨_, rfl⟩
  obtain ⟨N, hN⟩ : ∃ N, N = (RA.new p RS.zero).cells.toArray := ⟨_, rfl⟩
  rw [← hC, ← hN] at hbld
  have HBld := Lib.hid hbld
  rw [← hC]
  have HN := Lib.hid hN
  have HQ : Hid ((w.alloc (.cells C 31)).heap[w.heap.size]? = some (.cells C 31 (0, 0))) := Lib.hid (HasB.new w _ _)
  have hx : (w.alloc (.cells C 31)).cell? ⟨w.heap.size, 32, none⟩ = some (.bool false) := by
    rw [(HasB.new w C _).at, hC]; rfl
  have hx2 : (w.alloc (.cells C 31)).cell? ⟨w.heap.size, 33, none⟩ = some (.int .u32 0) := by
    rw [(HasB.new w C _).at, hC]; rfl
  obtain ⟨KL, hKL⟩ : ∃ KL, KL = u8s (List.replicate 32 0) := ⟨_, rfl⟩
  have HK : Hid ((w.alloc (.cells C 31)).rangeAt w.heap.size 0 KL) := Lib.hid (by
    have := HasB.new w C 31
    rw [hC] at this ⊢
    rw [hKL]
    exact HasB.range3 (A := []) (B := u8s (List.replicate 32 0)) (C := [.bool false, .int .u32 0]) this rfl)
  have HIk : Hid ((Try.prog.info? 22).map (·.size) = some KL.length) := Lib.hid (by rw [hKL]; exact info_k32)
  have hz := zero_arr
  rw [← hKL] at hz
  have HI : Hid ((Try.prog.info? 31).map (·.size) = some C.size) := Lib.hid (by rw [hC]; exact info_st)
  have p1 : ¬ p < 1 := by omega
  have p2 : ¬ 256 < p := by omega
  have hb1 : Below w.heap.size w (w.alloc (.cells C 31)) := (Below.refl _ _).alloc (Nat.le_refl _) _
  have hs1 : w.heap.size ≤ (w.alloc (.cells C 31)).heap.size := hb1.size
  have HB1 := Lib.hid hb1
  have HS1 := Lib.hid hs1
  clear hC hN hp hPOST hbld hb1 hs1 hKL
  go_enter Try.func9, Try.ntmps9
  go_wp2_with (first | (with_reducible refine stop_dst 22 rfl ?_))
  refine Stop.go ?_
  refine wpList_wanted (by rfl) (fun K hK => ?_)
  refine wp_load_mid 22 (.tmp 21) rfl w.heap.size 0 rfl KL _ HK.out Try.underlying22 rfl HIk.out ?_
  refine hK _ _ ?_
  go_wp2_with (first | (with_reducible refine wpList_load_row rfl 31 (.tmp 3) rfl w.heap.size rfl 31 C (0, 0) _ HQ.out Try.underlying31 rfl HI.out ?_) | (with_reducible refine stop_build 69 _ rfl ?_))
  refine Stop.go ?_
  refine wpList_buildTo rfl 69 _ rfl _ rfl N ?_ ?_
  · rw [List.map_toArray]; exact HBld.out
  go_wp2
  rw [HPOST.out]
  refine ⟨_, rfl, Nat.le_succ _, ?_, HB1.out.alloc HS1.out _⟩
  rw [HN.out]
  exact HasB.new' (by simp) _ _
end Go.Proofs.Ytkdjimcpdbpemaa
