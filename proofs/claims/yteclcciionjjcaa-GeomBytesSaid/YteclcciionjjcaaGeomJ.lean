/- geom: Encode, the program's and the reference's: the walks. -/
import Derived.Test.YteclcciionjjcaaGeomI
namespace Go.Proofs.Yteclcciionjjcaa
open Go Go.RowKit
set_option linter.unusedVariables false

theorem bytes_lit4 {w : World} {e : TypeId} {x y z u : Nat} (hx : x < 256) (hy : y < 256) (hz : z < 256) (hu : u < 256) : Bytes (w.alloc (.cells #[.int .u8 (x : Int), .int .u8 (y : Int), .int .u8 (z : Int), .int .u8 (u : Int)] e)) (some ⟨w.heap.size, 0, none⟩) 4 [x, y, z, u] :=
  ⟨rfl, by intro c hc; simp at hc; omega, fun _ => ⟨w.heap.size, 0, rfl, by simp, fun i hi => by
    match i, hi with
    | 0, _ => simp
    | 1, _ => simp
    | 2, _ => simp
    | 3, _ => simp⟩⟩
/-- What a loop over a shape's numbers keeps: the shape's box, the numbers' row, the bytes. -/
def EncI (w : World) (B gc gp : Nat) (C P : Array Value) (c : Cfg) (T e : TypeId) (k : Nat) (v : Value) (wr : World) : Prop :=
  HasB wr gc C T ∧ HasB wr gp P e ∧ wr.ownsRow B 5 1 v (4 * k) (u8s (encG c k)) ∧ Below w.heap.size w wr
def EncJ (w : World) (B gc gp : Nat) (C P : Array Value) (T e : TypeId) (n : Nat) (l : List Nat) (v : Value) (wr : World) : Prop :=
  HasB wr gc C T ∧ HasB wr gp P e ∧ wr.ownsRow B 5 1 v n (u8s l) ∧ Below w.heap.size w wr
theorem EncJ.app {w wo wa w' : World} {B gc gp : Nat} {C P : Array Value} {T e : TypeId} {n m : Nat} {l r : List Nat} {v v' : Value} (h : EncJ w B gc gp C P T e n l v wo) (hw : w.heap.size ≤ B) (h1 : gc < B) (h2 : gp < B) (hb : Below wo.heap.size wo wa) (ho : w'.ownsRow B 5 1 v' (n + m) (u8s (l ++ r))) (hg : wa.grownBy w' v.ownBlock) : EncJ w B gc gp C P T e (n + m) (l ++ r) v' w' :=
  ⟨keep_row h.1 h1 h.2.2.1 hb hg, keep_row h.2.1 h2 h.2.2.1 hb hg, ho, below_row h.2.2.2 hw h.2.2.1 hb hg⟩

set_option maxRecDepth 100000 in
set_option maxHeartbeats 4000000 in
theorem genc_any (c : Cfg) (w : World) :
    Calls Try.prog 5 #[.agg #[.int .i64 c.blocks, .int .i64 c.pages, .int .i64 c.sector, .int .i64 c.user, .int .i64 c.boot, .int .i64 c.rpa, .int .i64 c.group, .int .i64 c.cache, .int .i64 c.spare]] w fun x w' => EncAt w' (encG c 9) x ∧ Below w.heap.size w w' := by
  obtain ⟨POST, hPOST⟩ : ∃ POST : Ending → World → Prop, POST = fun x w' => EncAt w' (encG c 9) x ∧ Below w.heap.size w w' := ⟨_, rfl⟩
  rw [← hPOST]
  have HPost := Lib.hid hPOST
  clear hPOST
  obtain ⟨C, hC⟩ : ∃ C, C = c.cells.toArray := ⟨_, rfl⟩
  have HNum : Hid (∀ k, k < 9 → C[k]? = some (.int .i64 (c.num k))) := Lib.hid (fun k hk => by rw [hC]; exact c.cell_num k hk)
  have HBox : Hid (HasB (w.alloc (.cells C 23)) w.heap.size C 23) := Lib.hid (HasB.new _ _ _)
  have HB1 : Hid (Below w.heap.size w (w.alloc (.cells C 23)) ∧ (w.alloc (.cells C 23)).heap.size = w.heap.size + 1) := Lib.hid ⟨(Below.refl _ _).alloc (Nat.le_refl _) _, by simp⟩
  have HN : Hid (Calls Try.prog 14 #[.pointer (some ⟨w.heap.size, 0, none⟩)] (w.alloc (.cells C 23)) fun x w' => x = .returned (.slice (some ⟨w.heap.size + 1, 0, none⟩) 9 9) ∧ HasB w' (w.heap.size + 1) (ptrs w.heap.size) 40 ∧ Below (w.heap.size + 1) (w.alloc (.cells C 23)) w') := Lib.hid (by
    have h := numbers_any w.heap.size (w.alloc (.cells C 23))
    rw [show (w.alloc (.cells C 23)).heap.size = w.heap.size + 1 by simp] at h
    exact h)
  have hCe : C = #[.int .i64 c.blocks, .int .i64 c.pages, .int .i64 c.sector, .int .i64 c.user, .int .i64 c.boot, .int .i64 c.rpa, .int .i64 c.group, .int .i64 c.cache, .int .i64 c.spare] := by rw [hC]; rfl
  go_enter Try.func5, Try.ntmps5
  go_wp2_with fail
  rw [← hCe]
  clear hCe hC
  generalize w.alloc (.cells C 23) = w1 at HN HBox HB1 ⊢
  refine HN.out.mono ?_
  rintro e w2 ⟨rfl, hp, hb⟩
  have HS : Hid (EncI w (w.heap.size + 2) w.heap.size (w.heap.size + 1) C (ptrs w.heap.size) c 23 40 0 (.slice none 0 0) w2) := Lib.hid ⟨HasB.below HBox.out (hb.mono (by rw [HB1.out.2]; exact Nat.le_refl _)) HBox.out.lt, hp, ⟨rfl, .inl ⟨rfl, rfl⟩⟩, HB1.out.1.trans (hb.mono (by omega))⟩
  clear hp hb HN HBox HB1
  go_wp2_with fail
  go_loopw [3, 9] (fun v i wr => ∃ k : Nat, k ≤ 9 ∧ i = .int .i64 (k : Int) ∧ Hid (EncI w (w.heap.size + 2) w.heap.size (w.heap.size + 1) C (ptrs w.heap.size) c 23 40 k v wr)) (fun _ i _ => 9 - (intOf i).toNat)
  case atStart => exact ⟨0, by omega, rfl, HS⟩
  case round =>
    clear HS
    obtain ⟨k, hk, rfl, HR⟩ := hrel
    obtain ⟨wo, rfl⟩ : ∃ wo : World, wo = wr := ⟨_, rfl⟩
    by_cases hlt : k < 9
    · have t1 : (k : Int) < 9 := by omega
      have t2 : (0 : Int) ≤ (k : Int) ∧ (k : Int) < 9 := by omega
      have p0 : wo.cell? ⟨w.heap.size + 1, k, none⟩ = some (.pointer (some ⟨w.heap.size, k, none⟩)) := (HR.out.2.1.at k).trans (ptrs_at _ _ hlt)
      have q0 : wo.cell? ⟨w.heap.size, k, none⟩ = some (.int .i64 (c.num k)) := (HR.out.1.at k).trans (HNum.out k hlt)
      have HX : Hid (encG c (k + 1) = encG c k ++ le4 (c.num k)) := Lib.hid rfl
      obtain ⟨n, hn⟩ : ∃ n, n = c.num k := ⟨_, rfl⟩
      rw [← hn] at q0 HX
      obtain ⟨U, hU⟩ : ∃ U, U = u32n n := ⟨_, rfl⟩
      have hnU : n % 4294967296 = (U : Int) := by rw [hU]; unfold u32n; omega
      obtain ⟨c0, hc0⟩ : ∃ c0, c0 = U % 256 := ⟨_, rfl⟩
      obtain ⟨c1, hc1⟩ : ∃ c1, c1 = U / 256 % 256 := ⟨_, rfl⟩
      obtain ⟨c2, hc2⟩ : ∃ c2, c2 = U / 65536 % 256 := ⟨_, rfl⟩
      obtain ⟨c3, hc3⟩ : ∃ c3, c3 = U / 16777216 % 256 := ⟨_, rfl⟩
      have HL4 : Hid (encG c k ++ [c0, c1, c2, c3] = encG c (k + 1)) := Lib.hid (by rw [HX.out]; unfold le4; rw [← hU, ← hc0, ← hc1, ← hc2, ← hc3])
      have i0 : (U : Int) % 256 = (c0 : Int) := by omega
      have i1 : (U : Int) / 256 % 256 = (c1 : Int) := by omega
      have i2 : (U : Int) / 65536 % 256 = (c2 : Int) := by omega
      have hU4 : U < 4294967296 := by rw [hU]; exact u32n_lt n
      have i3 : (U : Int) / 16777216 = (c3 : Int) := by omega
      have c0lt : c0 < 256 := by omega
      have c1lt : c1 < 256 := by omega
      have c2lt : c2 < 256 := by omega
      have c3lt : c3 < 256 := by omega
      have HJ0 : Hid (EncJ w (w.heap.size + 2) w.heap.size (w.heap.size + 1) C (ptrs w.heap.size) 23 40 (4 * k) (encG c k) u3 wo) := HR
      have HC1 : Hid (C[k]? = some (.int .i64 n)) := Lib.hid (by rw [hn]; exact HNum.out k hlt)
      have hwo0 := HR.out.2.1.lt
      clear hc0 hc1 hc2 hc3 hU hn HX HR p0
      have p0 : wo.cell? ⟨w.heap.size + 1, k, none⟩ = some (.pointer (some ⟨w.heap.size, k, none⟩)) := (HJ0.out.2.1.at k).trans (ptrs_at _ _ hlt)
      go_wp2_with fail
      refine wp_loop_rounds 5 ?_
      rw [rounds_succ]
      go_wp2_with (at_builtin; refine Stop.mk ?_)
      refine Stop.go ?_
      refine wpList_app_u8 rfl _ _ 24 rfl (w.heap.size + 2) 5 Try.underlying24 Try.infoU8 u3 (4 * k) (encG c k) rfl (own_below HJ0.out.2.2.1 ((Below.refl _ _).alloc (Nat.le_refl _) _) (Nat.le_refl _)) _ 1 1 [c0] rfl (bytes_lit1 c0lt) (fun h => by simp at h) (by omega) (by simp; omega) ?_
      intro v1 w3 hown0 hgrow0
      have HJ1 : Hid (EncJ w (w.heap.size + 2) w.heap.size (w.heap.size + 1) C (ptrs w.heap.size) 23 40 (4 * k + 1) (encG c k ++ [c0]) v1 w3) := Lib.hid (HJ0.out.app (by omega) (by omega) (by omega) ((Below.refl _ _).alloc (Nat.le_refl _) _) hown0 hgrow0)
      have hwo1 := HJ1.out.2.1.lt
      have q1 : w3.cell? ⟨w.heap.size, k, none⟩ = some (.int .i64 n) := (HJ1.out.1.at k).trans HC1.out
      clear hown0 hgrow0
      go_wp2_with fail
      rw [rounds_succ]
      go_wp2_with (at_builtin; refine Stop.mk ?_)
      refine Stop.go ?_
      refine wpList_app_u8 rfl _ _ 24 rfl (w.heap.size + 2) 5 Try.underlying24 Try.infoU8 v1 (4 * k + 1) (encG c k ++ [c0]) rfl (own_below HJ1.out.2.2.1 ((Below.refl _ _).alloc (Nat.le_refl _) _) (Nat.le_refl _)) _ 1 1 [c1] rfl (bytes_lit1 c1lt) (fun h => by simp at h) (by omega) (by simp; omega) ?_
      intro v2 w4 hown1 hgrow1
      have HJ2 : Hid (EncJ w (w.heap.size + 2) w.heap.size (w.heap.size + 1) C (ptrs w.heap.size) 23 40 (4 * k + 2) (encG c k ++ [c0] ++ [c1]) v2 w4) := Lib.hid (HJ1.out.app (by omega) (by omega) (by omega) ((Below.refl _ _).alloc (Nat.le_refl _) _) hown1 hgrow1)
      have hwo2 := HJ2.out.2.1.lt
      have q2 : w4.cell? ⟨w.heap.size, k, none⟩ = some (.int .i64 n) := (HJ2.out.1.at k).trans HC1.out
      clear hown1 hgrow1
      go_wp2_with fail
      rw [rounds_succ]
      go_wp2_with (at_builtin; refine Stop.mk ?_)
      refine Stop.go ?_
      refine wpList_app_u8 rfl _ _ 24 rfl (w.heap.size + 2) 5 Try.underlying24 Try.infoU8 v2 (4 * k + 2) (encG c k ++ [c0] ++ [c1]) rfl (own_below HJ2.out.2.2.1 ((Below.refl _ _).alloc (Nat.le_refl _) _) (Nat.le_refl _)) _ 1 1 [c2] rfl (bytes_lit1 c2lt) (fun h => by simp at h) (by omega) (by simp; omega) ?_
      intro v3 w5 hown2 hgrow2
      have HJ3 : Hid (EncJ w (w.heap.size + 2) w.heap.size (w.heap.size + 1) C (ptrs w.heap.size) 23 40 (4 * k + 3) (encG c k ++ [c0] ++ [c1] ++ [c2]) v3 w5) := Lib.hid (HJ2.out.app (by omega) (by omega) (by omega) ((Below.refl _ _).alloc (Nat.le_refl _) _) hown2 hgrow2)
      have hwo3 := HJ3.out.2.1.lt
      have q3 : w5.cell? ⟨w.heap.size, k, none⟩ = some (.int .i64 n) := (HJ3.out.1.at k).trans HC1.out
      clear hown2 hgrow2
      go_wp2_with fail
      rw [rounds_succ]
      go_wp2_with (at_builtin; refine Stop.mk ?_)
      refine Stop.go ?_
      refine wpList_app_u8 rfl _ _ 24 rfl (w.heap.size + 2) 5 Try.underlying24 Try.infoU8 v3 (4 * k + 3) (encG c k ++ [c0] ++ [c1] ++ [c2]) rfl (own_below HJ3.out.2.2.1 ((Below.refl _ _).alloc (Nat.le_refl _) _) (Nat.le_refl _)) _ 1 1 [c3] rfl (bytes_lit1 c3lt) (fun h => by simp at h) (by omega) (by simp; omega) ?_
      intro v4 w6 hown3 hgrow3
      have HJ4 : Hid (EncJ w (w.heap.size + 2) w.heap.size (w.heap.size + 1) C (ptrs w.heap.size) 23 40 (4 * k + 4) (encG c k ++ [c0] ++ [c1] ++ [c2] ++ [c3]) v4 w6) := Lib.hid (HJ3.out.app (by omega) (by omega) (by omega) ((Below.refl _ _).alloc (Nat.le_refl _) _) hown3 hgrow3)
      have hwo4 := HJ4.out.2.1.lt
      have q4 : w6.cell? ⟨w.heap.size, k, none⟩ = some (.int .i64 n) := (HJ4.out.1.at k).trans HC1.out
      clear hown3 hgrow3
      go_wp2_with fail
      rw [rounds_succ]
      go_wp2_with fail
      go_roundw
      case rel => exact ⟨k + 1, by omega, by go_num, Lib.hid (by have h := HJ4.out; rw [show encG c k ++ [c0] ++ [c1] ++ [c2] ++ [c3] = encG c (k + 1) by rw [← HL4.out]; simp] at h; exact h)⟩
      case measure => simp [intOf]; omega
    · obtain rfl : k = 9 := by omega
      have hE := enc_at HR.out.2.2.1 (encG_lt c 9)
      have HE := Lib.hid (And.intro hE HR.out.2.2.2)
      clear hE HR
      go_wp2
      rw [HPost.out]
      exact HE.out

set_option maxRecDepth 100000 in
set_option maxHeartbeats 4000000 in
theorem rnumbers_any (c : Cfg) (w : World) :
    Calls Try.prog 18 #[.agg #[.int .i64 c.blocks, .int .i64 c.pages, .int .i64 c.sector, .int .i64 c.user, .int .i64 c.boot, .int .i64 c.rpa, .int .i64 c.group, .int .i64 c.cache, .int .i64 c.spare]] w fun x w' => ∃ g, x = .returned (.slice (some ⟨g, 0, none⟩) 9 9) ∧ w.heap.size < g ∧ HasB w' g c.cells.toArray 3 ∧ Below w.heap.size w w' := by
  have HF : Hid (HasB ((w.alloc (.cells c.cells.toArray 23)).alloc (.cells c.cells.toArray 3)) (w.heap.size + 1) c.cells.toArray 3 ∧ Below w.heap.size w ((w.alloc (.cells c.cells.toArray 23)).alloc (.cells c.cells.toArray 3))) := Lib.hid ⟨HasB.new' (by simp) _ _, ((Below.refl _ _).alloc (Nat.le_refl _) _).alloc (by simp) _⟩
  unfold Cfg.cells at HF ⊢
  go_enter Try.func18, Try.ntmps18
  go_wp2_with fail
  go_ret
  exact ⟨w.heap.size + 1, by simp, by omega, HF.out⟩

set_option maxRecDepth 100000 in
set_option maxHeartbeats 4000000 in
theorem rgenc_any (c : Cfg) (w : World) :
    Calls Try.prog 8 #[.agg #[.int .i64 c.blocks, .int .i64 c.pages, .int .i64 c.sector, .int .i64 c.user, .int .i64 c.boot, .int .i64 c.rpa, .int .i64 c.group, .int .i64 c.cache, .int .i64 c.spare]] w fun x w' => EncAt w' (encG c 9) x ∧ Below w.heap.size w w' := by
  obtain ⟨POST, hPOST⟩ : ∃ POST : Ending → World → Prop, POST = fun x w' => EncAt w' (encG c 9) x ∧ Below w.heap.size w w' := ⟨_, rfl⟩
  rw [← hPOST]
  have HPost := Lib.hid hPOST
  clear hPOST
  have hrn := fun w => rnumbers_any c w
  obtain ⟨C, hC⟩ : ∃ C, C = c.cells.toArray := ⟨_, rfl⟩
  have HNum : Hid (∀ k, k < 9 → C[k]? = some (.int .i64 (c.num k))) := Lib.hid (fun k hk => by rw [hC]; exact c.cell_num k hk)
  have hCe : C = #[.int .i64 c.blocks, .int .i64 c.pages, .int .i64 c.sector, .int .i64 c.user, .int .i64 c.boot, .int .i64 c.rpa, .int .i64 c.group, .int .i64 c.cache, .int .i64 c.spare] := by rw [hC]; rfl
  rw [← hC] at hrn
  rw [← hCe] at hrn
  rw [← hCe]
  have HRn := Lib.hid hrn
  have HIC : Hid ((Try.prog.info? 23).map (·.size) = some C.size) := Lib.hid (by rw [hC]; kernel_rfl)
  have HBox : Hid (HasB (w.alloc (.cells C 23)) w.heap.size C 23) := Lib.hid (HasB.new _ _ _)
  have HB1 : Hid (Below w.heap.size w (w.alloc (.cells C 23)) ∧ (w.alloc (.cells C 23)).heap.size = w.heap.size + 1) := Lib.hid ⟨(Below.refl _ _).alloc (Nat.le_refl _) _, by simp⟩
  clear hrn hCe hC
  go_enter Try.func8, Try.ntmps8
  have HQ : Hid ((w.alloc (.cells C 23)).heap[w.heap.size]? = some (.cells C 23 (0, 0))) := HBox
  go_wp2_with (with_reducible refine wpList_load_row rfl 23 (.tmp 1) rfl w.heap.size rfl 23 C (0, 0) _ HQ.out Try.underlying23 rfl HIC.out ?_)
  clear HQ
  generalize w.alloc (.cells C 23) = w1 at HBox HB1 ⊢
  refine (HRn.out w1).mono ?_
  rintro e w2 ⟨gp, rfl, hgp, hp, hb⟩
  have HS : Hid (EncI w (gp + 1) w.heap.size gp C C c 23 3 0 (.slice none 0 0) w2) := Lib.hid ⟨HasB.below HBox.out hb HBox.out.lt, hp, ⟨rfl, .inl ⟨rfl, rfl⟩⟩, HB1.out.1.trans (hb.mono (by have := HB1.out.2; omega))⟩
  have hgw : w.heap.size < gp := by have := HB1.out.2; omega
  clear hp hb HBox HB1 HRn
  go_wp2_with fail
  go_loopw [3, 5] (fun v i wr => ∃ k : Nat, k ≤ 9 ∧ i = .int .i64 (k : Int) ∧ Hid (EncI w (gp + 1) w.heap.size gp C C c 23 3 k v wr)) (fun _ i _ => 9 - (intOf i).toNat)
  case atStart => exact ⟨0, by omega, rfl, HS⟩
  case round =>
    clear HS
    obtain ⟨k, hk, rfl, HR⟩ := hrel
    obtain ⟨wo, rfl⟩ : ∃ wo : World, wo = wr := ⟨_, rfl⟩
    by_cases hlt : k < 9
    · have t1 : (k : Int) < 9 := by omega
      have t2 : (0 : Int) ≤ (k : Int) ∧ (k : Int) < 9 := by omega
      have q0 : wo.cell? ⟨gp, k, none⟩ = some (.int .i64 (c.num k)) := (HR.out.2.1.at k).trans (HNum.out k hlt)
      have HX : Hid (encG c (k + 1) = encG c k ++ le4 (c.num k)) := Lib.hid rfl
      obtain ⟨n, hn⟩ : ∃ n, n = c.num k := ⟨_, rfl⟩
      rw [← hn] at q0 HX
      obtain ⟨U, hU⟩ : ∃ U, U = u32n n := ⟨_, rfl⟩
      have hnU : n % 4294967296 = (U : Int) := by rw [hU]; unfold u32n; omega
      obtain ⟨c0, hc0⟩ : ∃ c0, c0 = U % 256 := ⟨_, rfl⟩
      obtain ⟨c1, hc1⟩ : ∃ c1, c1 = U / 256 % 256 := ⟨_, rfl⟩
      obtain ⟨c2, hc2⟩ : ∃ c2, c2 = U / 65536 % 256 := ⟨_, rfl⟩
      obtain ⟨c3, hc3⟩ : ∃ c3, c3 = U / 16777216 % 256 := ⟨_, rfl⟩
      have HL4 : Hid (encG c k ++ [c0, c1, c2, c3] = encG c (k + 1)) := Lib.hid (by rw [HX.out]; unfold le4; rw [← hU, ← hc0, ← hc1, ← hc2, ← hc3])
      have i0 : (U : Int) % 256 = (c0 : Int) := by omega
      have i1 : (U : Int) / 256 % 256 = (c1 : Int) := by omega
      have i2 : (U : Int) / 65536 % 256 = (c2 : Int) := by omega
      have hU4 : U < 4294967296 := by rw [hU]; exact u32n_lt n
      have i3 : (U : Int) / 16777216 = (c3 : Int) := by omega
      have c0lt : c0 < 256 := by omega
      have c1lt : c1 < 256 := by omega
      have c2lt : c2 < 256 := by omega
      have c3lt : c3 < 256 := by omega
      have HJ0 : Hid (EncJ w (gp + 1) w.heap.size gp C C 23 3 (4 * k) (encG c k) u3 wo) := HR
      have hwo0 := HR.out.2.1.lt
      clear hc0 hc1 hc2 hc3 hU hn HX HR
      go_wp2_with (at_builtin; refine Stop.mk ?_)
      refine Stop.go ?_
      refine wpList_app_u8 rfl _ _ 24 rfl (gp + 1) 5 Try.underlying24 Try.infoU8 u3 (4 * k) (encG c k) rfl (own_below HJ0.out.2.2.1 ((Below.refl _ _).alloc (Nat.le_refl _) _) (Nat.le_refl _)) _ 4 4 [c0, c1, c2, c3] rfl (bytes_lit4 c0lt c1lt c2lt c3lt) (fun h => by simp at h) (by omega) (by simp; omega) ?_
      intro v1 w3 hown0 hgrow0
      have HJ1 : Hid (EncJ w (gp + 1) w.heap.size gp C C 23 3 (4 * k + 4) (encG c k ++ [c0, c1, c2, c3]) v1 w3) := Lib.hid (HJ0.out.app (by omega) (by omega) (by omega) ((Below.refl _ _).alloc (Nat.le_refl _) _) hown0 hgrow0)
      have hwo1 := HJ1.out.2.1.lt
      clear hown0 hgrow0
      go_wp2_with fail
      go_roundw
      case rel => exact ⟨k + 1, by omega, by go_num, Lib.hid (by have h := HJ1.out; rw [HL4.out] at h; exact h)⟩
      case measure => simp [intOf]; omega
    · obtain rfl : k = 9 := by omega
      have hE := enc_at HR.out.2.2.1 (encG_lt c 9)
      have HE := Lib.hid (And.intro hE HR.out.2.2.2)
      clear hE HR
      go_wp2
      rw [HPost.out]
      exact HE.out
end Go.Proofs.Yteclcciionjjcaa
