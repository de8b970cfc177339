/- areas: a setting as bytes; Encode. -/
import Derived.Test.YtdbnadhmkfhdkaaAreasG
namespace Go.Proofs.Ytdbnadhmkfhdkaa
open Go Go.RowKit
set_option linter.unusedVariables false

theorem Try.infoU8 : (Try.prog.info? 5).map (fun i => (i.zero, i.size, i.bytes)) = some (some (.int .u8 0), 1, 1) := by kernel_rfl
def u32n (n : Int) : Nat := (n % 4294967296).toNat
theorem u32n_lt (n : Int) : u32n n < 4294967296 := by unfold u32n; omega
def le4 (n : Int) : List Nat := [u32n n % 256, u32n n / 256 % 256, u32n n / 65536 % 256, u32n n / 16777216 % 256]
theorem le4_lt (n : Int) : ∀ c ∈ le4 n, c < 256 := by intro c hc; simp [le4] at hc; omega
def Stg.sz (s : Stg) : Nat → Int
  | 0 => s.a
  | 1 => s.b
  | 2 => s.d
  | _ => s.e
def encTo (s : Stg) : Nat → List Nat
  | 0 => []
  | k + 1 => encTo s k ++ le4 (s.sz k)
theorem encTo_len (s : Stg) : ∀ k, (encTo s k).length = 4 * k
  | 0 => rfl
  | k + 1 => by rw [encTo, List.length_append, encTo_len s k]; simp [le4]; omega
theorem encTo_lt (s : Stg) : ∀ k, ∀ c ∈ encTo s k, c < 256
  | 0 => by simp [encTo]
  | k + 1 => by
    intro c hc
    rcases List.mem_append.1 hc with h | h
    · exact encTo_lt s k c h
    · exact le4_lt _ c h
def doneN (s : Stg) : Nat := if s.dn then 1 else 0
def encL (s : Stg) : List Nat := encTo s 4 ++ [s.v.toNat, doneN s]
theorem encL_len (s : Stg) : (encL s).length = 18 := by simp [encL, encTo_len]
theorem encL_lt (s : Stg) (h : s.wf) : ∀ c ∈ encL s, c < 256 := by
  intro c hc
  obtain ⟨_, _, _, _, h5, h6⟩ := h
  rcases List.mem_append.1 hc with h | h
  · exact encTo_lt s 4 c h
  · simp [doneN] at h
    rcases h with h | h
    · omega
    · split at h <;> omega
/-- What an encoding hands back. -/
def EncAt (w : World) (l : List Nat) (e : Ending) : Prop := ∃ a cap, e = .returned (.slice a 18 cap) ∧ Bytes w a 18 l ∧ (a = none → cap = 0)
theorem enc_at {w : World} {B : Nat} {v : Value} {l : List Nat} (h : w.ownsRow B 5 1 v 18 (u8s l)) (hl : ∀ c ∈ l, c < 256) : EncAt w l (.returned v) := by
  obtain ⟨g, cap, rfl⟩ := own_shape h (by omega)
  exact ⟨_, cap, rfl, bytes_of_own h hl, fun h => by simp at h⟩

/-- A boxed struct and what lies below, behind an append onto a row that is younger. -/
theorem keep_app {w wo wa w' : World} {vs : Array Value} {T e : TypeId} {v : Value} {n : Nat} {xs : List Value} (h : HasB wo w.heap.size vs T ∧ Below w.heap.size w wo) (ho : wo.ownsRow (w.heap.size + 1) e 1 v n xs) (hb : Below wo.heap.size wo wa) (hg : wa.grownBy w' v.ownBlock) : HasB w' w.heap.size vs T ∧ Below w.heap.size w w' := by
  have hlt := h.1.lt
  have hne : some w.heap.size ≠ v.ownBlock := by
    intro q
    have := (ho.lt _ q.symm).1
    omega
  have hb2 : Below w.heap.size w wa := h.2.trans (hb.mono (by omega))
  refine ⟨?_, hb2.grown hg (by have := hb.size; omega) (fun j hj => by have := (ho.lt j hj).1; omega)⟩
  have h2 : HasB wa w.heap.size vs T := h.1.below hb hlt
  exact (hg.block _ h2.lt hne).trans h2

/-- What the walks of Encode use of a setting. -/
structure EncK (s : Stg) (vn : Nat) : Prop where
  lt : ∀ c ∈ encL s, c < 256
  fin : ∀ d : Nat, d = doneN s → encTo s 4 ++ [vn, d] = encL s
  next : ∀ k : Nat, encTo s (k + 1) = encTo s k ++ le4 (s.sz k)
  len : ∀ k : Nat, (encTo s k).length = 4 * k
theorem encK (s : Stg) (vn : Nat) (h : s.v = (vn : Int)) (hs : s.wf) : EncK s vn :=
  ⟨encL_lt s hs, fun d hd => by unfold encL; rw [hd, h]; rfl, fun _ => rfl, encTo_len s⟩

set_option maxRecDepth 100000 in
set_option maxHeartbeats 4000000 in
theorem aenc_any (s : Stg) (w : World) (hs : s.wf) :
    Calls Try.prog 30 #[.agg #[.int .i64 s.a, .int .i64 s.b, .int .i64 s.d, .int .i64 s.e, .int .u8 s.v, .bool s.dn]] w fun x w' => EncAt w' (encL s) x ∧ Below w.heap.size w w' := by
  obtain ⟨POST, hPOST⟩ : ∃ POST : Ending → World → Prop, POST = fun x w' => EncAt w' (encL s) x ∧ Below w.heap.size w w' := ⟨_, rfl⟩
  rw [← hPOST]
  have HPost := Lib.hid hPOST
  clear hPOST
  obtain ⟨za, zb, zd, ze, zv, zn⟩ := s
  obtain ⟨vn, hvn, hv8⟩ : ∃ vn : Nat, zv = (vn : Int) ∧ vn < 256 := ⟨zv.toNat, by have h := hs.2.2.2.2; dsimp only at h; omega, by have h := hs.2.2.2.2; dsimp only at h; omega⟩
  subst hvn
  have HSz : Hid (∀ k : Nat, k < 4 → ∀ w, (Instr.index 34 (.agg #[.int .i64 za, .int .i64 zb, .int .i64 zd, .int .i64 ze]) (.int .i64 (k : Int))).run Try.prog w = .ok (.int .i64 (Stg.sz ⟨za, zb, zd, ze, (vn : Int), zn⟩ k)) w) := Lib.hid (fun k hk w => index_arr 34 3 4 _ .i64 k _ Try.underlying34 Try.sizeOf3 Try.isAgg3 hk (by
    match k, hk with
    | 0, _ => rfl
    | 1, _ => rfl
    | 2, _ => rfl
    | 3, _ => rfl))
  have HK := Lib.hid (encK ⟨za, zb, zd, ze, (vn : Int), zn⟩ vn rfl hs)
  have HDn : Hid (∀ b, zn = b → (if b then 1 else 0) = doneN ⟨za, zb, zd, ze, (vn : Int), zn⟩) := Lib.hid (by intro b h; unfold doneN; rw [h])
  obtain ⟨s, hS⟩ : ∃ s : Stg, s = ⟨za, zb, zd, ze, (vn : Int), zn⟩ := ⟨_, rfl⟩
  rw [← hS] at HSz HPost HDn HK
  have HBox : Hid (HasB (w.alloc (.cells #[.int .i64 za, .int .i64 zb, .int .i64 zd, .int .i64 ze, .int .u8 (vn : Int), .bool zn] 36)) w.heap.size #[.int .i64 za, .int .i64 zb, .int .i64 zd, .int .i64 ze, .int .u8 (vn : Int), .bool zn] 36) := Lib.hid (HasB.new _ _ _)
  have HB1 : Hid (Below w.heap.size w (w.alloc (.cells #[.int .i64 za, .int .i64 zb, .int .i64 zd, .int .i64 ze, .int .u8 (vn : Int), .bool zn] 36))) := Lib.hid ((Below.refl _ _).alloc (Nat.le_refl _) _)
  clear hS hs
  go_enter Try.func30, Try.ntmps30
  go_wp2_with fail
  obtain ⟨w1, hw1⟩ : ∃ w1, w.alloc (.cells #[.int .i64 za, .int .i64 zb, .int .i64 zd, .int .i64 ze, .int .u8 (vn : Int), .bool zn] 36) = w1 := ⟨_, rfl⟩
  rw [hw1] at HBox HB1 ⊢
  clear hw1
  go_loopw [3, 10] (fun v i wr => ∃ k : Nat, k ≤ 4 ∧ i = .int .i64 (k : Int) ∧ Hid (HasB wr w.heap.size #[.int .i64 za, .int .i64 zb, .int .i64 zd, .int .i64 ze, .int .u8 (vn : Int), .bool zn] 36 ∧ wr.ownsRow (w.heap.size + 1) 5 1 v (4 * k) (u8s (encTo s k)) ∧ Below w.heap.size w wr)) (fun _ i _ => 4 - (intOf i).toNat)
  case atStart => exact ⟨0, by omega, rfl, Lib.hid ⟨HBox.out, ⟨rfl, .inl ⟨rfl, rfl⟩⟩, HB1.out⟩⟩
  case round =>
    clear HBox HB1
    obtain ⟨k, hk, rfl, HR⟩ := hrel
    obtain ⟨wo, rfl⟩ : ∃ wo : World, wo = wr := ⟨_, rfl⟩
    by_cases hlt : k < 4
    · have t1 : (k : Int) < 4 := by omega
      have hik := HSz.out k hlt
      have HX := Lib.hid (HK.out.next k)
      obtain ⟨n, hn⟩ : ∃ n, n = s.sz k := ⟨_, rfl⟩
      rw [← hn] at hik HX
      obtain ⟨U, hU⟩ : ∃ U, U = u32n n := ⟨_, rfl⟩
      have hnU : n % 4294967296 = (U : Int) := by rw [hU]; unfold u32n; omega
      obtain ⟨c0, hc0⟩ : ∃ c0, c0 = U % 256 := ⟨_, rfl⟩
      obtain ⟨c1, hc1⟩ : ∃ c1, c1 = U / 256 % 256 := ⟨_, rfl⟩
      obtain ⟨c2, hc2⟩ : ∃ c2, c2 = U / 65536 % 256 := ⟨_, rfl⟩
      obtain ⟨c3, hc3⟩ : ∃ c3, c3 = U / 16777216 % 256 := ⟨_, rfl⟩
      have HL4 : Hid (encTo s k ++ [c0] ++ [c1] ++ [c2] ++ [c3] = encTo s (k + 1)) := Lib.hid (by rw [HX.out]; unfold le4; rw [← hU, ← hc0, ← hc1, ← hc2, ← hc3]; simp)
      have i0 : (U : Int) % 256 = (c0 : Int) := by omega
      have i1 : (U : Int) / 256 % 256 = (c1 : Int) := by omega
      have i2 : (U : Int) / 65536 % 256 = (c2 : Int) := by omega
      have hU4 : U < 4294967296 := by rw [hU]; exact u32n_lt n
      have i3 : (U : Int) / 16777216 = (c3 : Int) := by omega
      have c0lt : c0 < 256 := by omega
      have c1lt : c1 < 256 := by omega
      have c2lt : c2 < 256 := by omega
      have c3lt : c3 < 256 := by omega
      have HB0 : Hid (HasB wo w.heap.size #[.int .i64 za, .int .i64 zb, .int .i64 zd, .int .i64 ze, .int .u8 (vn : Int), .bool zn] 36 ∧ Below w.heap.size w wo) := Lib.hid ⟨HR.out.1, HR.out.2.2⟩
      have HO0 := Lib.hid HR.out.2.1
      have hwo0 := HB0.out.1.lt
      clear hc0 hc1 hc2 hc3 hU hn HX HR
      go_wp2_with fail
      refine wp_loop_rounds 5 ?_
      rw [rounds_succ]
      go_wp2_with (at_builtin; refine Stop.mk ?_)
      refine Stop.go ?_
      refine wpList_app_u8 rfl _ _ 24 rfl (w.heap.size + 1) 5 Try.underlying24 Try.infoU8 u3 (4 * k) (encTo s k) rfl (own_below HO0.out ((Below.refl _ _).alloc (Nat.le_refl _) _) (Nat.le_refl _)) _ 1 1 [c0] rfl (bytes_lit1 c0lt) (fun h => by simp at h) (by omega) (by simp; have := hwo0; omega) ?_
      intro v1 w2 hown0 hgrow0
      have HB1 := Lib.hid (keep_app HB0.out HO0.out ((Below.refl _ _).alloc (Nat.le_refl _) _) hgrow0)
      have HO1 := Lib.hid hown0
      have hwo1 := HB1.out.1.lt
      clear hown0 hgrow0
      go_wp2_with fail
      rw [rounds_succ]
      go_wp2_with (at_builtin; refine Stop.mk ?_)
      refine Stop.go ?_
      refine wpList_app_u8 rfl _ _ 24 rfl (w.heap.size + 1) 5 Try.underlying24 Try.infoU8 v1 (4 * k + 1) (encTo s k ++ [c0]) rfl (own_below HO1.out ((Below.refl _ _).alloc (Nat.le_refl _) _) (Nat.le_refl _)) _ 1 1 [c1] rfl (bytes_lit1 c1lt) (fun h => by simp at h) (by omega) (by simp; have := hwo1; omega) ?_
      intro v2 w3 hown1 hgrow1
      have HB2 := Lib.hid (keep_app HB1.out HO1.out ((Below.refl _ _).alloc (Nat.le_refl _) _) hgrow1)
      have HO2 := Lib.hid hown1
      have hwo2 := HB2.out.1.lt
      rw [Nat.add_assoc] at HO2
      clear hown1 hgrow1
      go_wp2_with fail
      rw [rounds_succ]
      go_wp2_with (at_builtin; refine Stop.mk ?_)
      refine Stop.go ?_
      refine wpList_app_u8 rfl _ _ 24 rfl (w.heap.size + 1) 5 Try.underlying24 Try.infoU8 v2 (4 * k + 2) (encTo s k ++ [c0] ++ [c1]) rfl (own_below HO2.out ((Below.refl _ _).alloc (Nat.le_refl _) _) (Nat.le_refl _)) _ 1 1 [c2] rfl (bytes_lit1 c2lt) (fun h => by simp at h) (by omega) (by simp; have := hwo2; omega) ?_
      intro v3 w4 hown2 hgrow2
      have HB3 := Lib.hid (keep_app HB2.out HO2.out ((Below.refl _ _).alloc (Nat.le_refl _) _) hgrow2)
      have HO3 := Lib.hid hown2
      have hwo3 := HB3.out.1.lt
      rw [Nat.add_assoc] at HO3
      clear hown2 hgrow2
      go_wp2_with fail
      rw [rounds_succ]
      go_wp2_with (at_builtin; refine Stop.mk ?_)
      refine Stop.go ?_
      refine wpList_app_u8 rfl _ _ 24 rfl (w.heap.size + 1) 5 Try.underlying24 Try.infoU8 v3 (4 * k + 3) (encTo s k ++ [c0] ++ [c1] ++ [c2]) rfl (own_below HO3.out ((Below.refl _ _).alloc (Nat.le_refl _) _) (Nat.le_refl _)) _ 1 1 [c3] rfl (bytes_lit1 c3lt) (fun h => by simp at h) (by omega) (by simp; have := hwo3; omega) ?_
      intro v4 w5 hown3 hgrow3
      have HB4 := Lib.hid (keep_app HB3.out HO3.out ((Below.refl _ _).alloc (Nat.le_refl _) _) hgrow3)
      have HO4 := Lib.hid hown3
      have hwo4 := HB4.out.1.lt
      rw [Nat.add_assoc] at HO4
      clear hown3 hgrow3
      go_wp2_with fail
      rw [rounds_succ]
      rw [HL4.out] at HO4
      go_wp2_with fail
      go_roundw
      case rel => exact ⟨k + 1, by omega, by go_num, Lib.hid ⟨HB4.out.1, by rw [show 4 * (k + 1) = 4 * k + 4 by omega]; exact HO4.out, HB4.out.2⟩⟩
      case measure => simp [intOf]; omega
    · obtain rfl : k = 4 := by omega
      have HB0 : Hid (HasB wo w.heap.size #[.int .i64 za, .int .i64 zb, .int .i64 zd, .int .i64 ze, .int .u8 (vn : Int), .bool zn] 36 ∧ Below w.heap.size w wo) := Lib.hid ⟨HR.out.1, HR.out.2.2⟩
      have HO0 := Lib.hid HR.out.2.1
      have hwo0 := HB0.out.1.lt
      have f1 := HB0.out.1.at 4
      have f2 := HB0.out.1.at 5
      have hF : ∀ d : Nat, (if zn then 1 else 0) = d → d < 256 ∧ encTo s 4 ++ [vn, d] = encL s := fun d hd => ⟨by rw [← hd]; split <;> omega, HK.out.fin d (by rw [← hd]; exact HDn.out zn rfl)⟩
      have HF := Lib.hid hF
      clear HR HDn hF
      cases zn with
      | true =>
        have HG := Lib.hid (HF.out 1 rfl)
        clear HF
        go_wp2_with (at_builtin; refine Stop.mk ?_)
        refine Stop.go ?_
        refine wpList_app_u8 rfl _ _ 24 rfl (w.heap.size + 1) 5 Try.underlying24 Try.infoU8 u3 (4 * 4) (encTo s 4) rfl (own_below HO0.out ((Below.refl _ _).alloc (Nat.le_refl _) _) (Nat.le_refl _)) _ 2 2 [vn, 1] rfl (bytes_lit2 hv8 HG.out.1) (fun h => by simp at h) (by omega) (by simp; omega) ?_
        intro v1 w2 hown0 hgrow0
        have hkp := keep_app HB0.out HO0.out ((Below.refl _ _).alloc (Nat.le_refl _) _) hgrow0
        rw [HG.out.2] at hown0
        have HE := Lib.hid (enc_at hown0 HK.out.lt)
        have HB := Lib.hid hkp.2
        clear hown0 hgrow0 hkp
        go_wp2
        rw [HPost.out]
        exact ⟨HE.out, HB.out⟩
      | false =>
        have HG := Lib.hid (HF.out 0 rfl)
        clear HF
        go_wp2_with (at_builtin; refine Stop.mk ?_)
        refine Stop.go ?_
        refine wpList_app_u8 rfl _ _ 24 rfl (w.heap.size + 1) 5 Try.underlying24 Try.infoU8 u3 (4 * 4) (encTo s 4) rfl (own_below HO0.out ((Below.refl _ _).alloc (Nat.le_refl _) _) (Nat.le_refl _)) _ 2 2 [vn, 0] rfl (bytes_lit2 hv8 HG.out.1) (fun h => by simp at h) (by omega) (by simp; omega) ?_
        intro v1 w2 hown0 hgrow0
        have hkp := keep_app HB0.out HO0.out ((Below.refl _ _).alloc (Nat.le_refl _) _) hgrow0
        rw [HG.out.2] at hown0
        have HE := Lib.hid (enc_at hown0 HK.out.lt)
        have HB := Lib.hid hkp.2
        clear hown0 hgrow0 hkp
        go_wp2
        rw [HPost.out]
        exact ⟨HE.out, HB.out⟩
end Go.Proofs.Ytdbnadhmkfhdkaa
