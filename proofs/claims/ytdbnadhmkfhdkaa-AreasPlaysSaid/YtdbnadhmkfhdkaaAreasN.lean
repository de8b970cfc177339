/- the reference's Encode of a setting. -/
import Derived.Test.YtdbnadhmkfhdkaaAreasM
namespace Go.Proofs.Ytdbnadhmkfhdkaa
open Go Go.RowKit
set_option linter.unusedVariables false

theorem bytes_lit4 {w : World} {e : TypeId} {x y z u : Nat} (hx : x < 256) (hy : y < 256) (hz : z < 256) (hu : u < 256) : Bytes (w.alloc (.cells #[.int .u8 (x : Int), .int .u8 (y : Int), .int .u8 (z : Int), .int .u8 (u : Int)] e)) (some ⟨w.heap.size, 0, none⟩) 4 [x, y, z, u] :=
  ⟨rfl, by intro c hc; simp at hc; omega, fun _ => ⟨w.heap.size, 0, rfl, by simp, fun i hi => by
    match i, hi with
    | 0, _ => simp
    | 1, _ => simp
    | 2, _ => simp
    | 3, _ => simp⟩⟩
def stgV (s : Stg) : Nat → Value
  | 0 => .int .i64 s.a
  | 1 => .int .i64 s.b
  | 2 => .int .i64 s.d
  | _ => .int .i64 s.e
theorem stgV_sz (s : Stg) (k : Nat) (hk : k < 4) : s.cells.toArray[k]? = some (.int .i64 (s.sz k)) := by
  match k, hk with
  | 0, _ => rfl
  | 1, _ => rfl
  | 2, _ => rfl
  | 3, _ => rfl

set_option maxRecDepth 100000 in
set_option maxHeartbeats 4000000 in
theorem renc_any (s : Stg) (w : World) (hs : s.wf) :
    Calls Try.prog 33 #[.agg #[.int .i64 s.a, .int .i64 s.b, .int .i64 s.d, .int .i64 s.e, .int .u8 s.v, .bool s.dn]] w fun x w' => EncAt w' (encL s) x ∧ Below w.heap.size w w' := by
  obtain ⟨POST, hPOST⟩ : ∃ POST : Ending → World → Prop, POST = fun x w' => EncAt w' (encL s) x ∧ Below w.heap.size w w' := ⟨_, rfl⟩
  rw [← hPOST]
  have HPost := Lib.hid hPOST
  clear hPOST
  obtain ⟨za, zb, zd, ze, zv, zn⟩ := s
  obtain ⟨vn, hvn, hv8⟩ : ∃ vn : Nat, zv = (vn : Int) ∧ vn < 256 := ⟨zv.toNat, by have h := hs.2.2.2.2; dsimp only at h; omega, by have h := hs.2.2.2.2; dsimp only at h; omega⟩
  subst hvn
  have HSz : Hid (∀ k : Nat, k < 4 → (#[Value.int .i64 za, .int .i64 zb, .int .i64 zd, .int .i64 ze, .int .u8 (vn : Int), .bool zn])[k]? = some (.int .i64 (Stg.sz ⟨za, zb, zd, ze, (vn : Int), zn⟩ k))) := Lib.hid (fun k hk => stgV_sz ⟨za, zb, zd, ze, (vn : Int), zn⟩ k hk)
  have HK := Lib.hid (encK ⟨za, zb, zd, ze, (vn : Int), zn⟩ vn rfl hs)
  have HDn : Hid (∀ b, zn = b → (if b then 1 else 0) = doneN ⟨za, zb, zd, ze, (vn : Int), zn⟩) := Lib.hid (by intro b h; unfold doneN; rw [h])
  obtain ⟨s, hS⟩ : ∃ s : Stg, s = ⟨za, zb, zd, ze, (vn : Int), zn⟩ := ⟨_, rfl⟩
  rw [← hS] at HSz HPost HDn HK
  have HBox : Hid (HasB (w.alloc (.cells #[.int .i64 za, .int .i64 zb, .int .i64 zd, .int .i64 ze, .int .u8 (vn : Int), .bool zn] 56)) w.heap.size #[.int .i64 za, .int .i64 zb, .int .i64 zd, .int .i64 ze, .int .u8 (vn : Int), .bool zn] 56) := Lib.hid (HasB.new _ _ _)
  have HB1 : Hid (Below w.heap.size w (w.alloc (.cells #[.int .i64 za, .int .i64 zb, .int .i64 zd, .int .i64 ze, .int .u8 (vn : Int), .bool zn] 56))) := Lib.hid ((Below.refl _ _).alloc (Nat.le_refl _) _)
  clear hS hs
  go_enter Try.func33, Try.ntmps33
  go_wp2_with fail
  obtain ⟨w1, hw1⟩ : ∃ w1, w.alloc (.cells #[.int .i64 za, .int .i64 zb, .int .i64 zd, .int .i64 ze, .int .u8 (vn : Int), .bool zn] 56) = w1 := ⟨_, rfl⟩
  rw [hw1] at HBox HB1 ⊢
  clear hw1
  go_loopw [3, 4] (fun v i wr => ∃ k : Nat, k ≤ 4 ∧ i = .int .i64 (k : Int) ∧ Hid (HasB wr w.heap.size #[.int .i64 za, .int .i64 zb, .int .i64 zd, .int .i64 ze, .int .u8 (vn : Int), .bool zn] 56 ∧ wr.ownsRow (w.heap.size + 1) 5 1 v (4 * k) (u8s (encTo s k)) ∧ Below w.heap.size w wr)) (fun _ i _ => 4 - (intOf i).toNat)
  case atStart => exact ⟨0, by omega, rfl, Lib.hid ⟨HBox.out, ⟨rfl, .inl ⟨rfl, rfl⟩⟩, HB1.out⟩⟩
  case round =>
    clear HBox HB1
    obtain ⟨k, hk, rfl, HR⟩ := hrel
    obtain ⟨wo, rfl⟩ : ∃ wo : World, wo = wr := ⟨_, rfl⟩
    by_cases hlt : k < 4
    · have t1 : (k : Int) < 4 := by omega
      have t2 : (0 : Int) ≤ (k : Int) ∧ (k : Int) < 4 := by omega
      have hik : wo.cell? ⟨w.heap.size, k, none⟩ = some (.int .i64 (s.sz k)) := (HR.out.1.at k).trans (HSz.out k hlt)
      have HX := Lib.hid (HK.out.next k)
      obtain ⟨n, hn⟩ : ∃ n, n = s.sz k := ⟨_, rfl⟩
      rw [← hn] at hik HX
      obtain ⟨U, hU⟩ : ∃ U, U = u32n n := ⟨_, rfl⟩
      have hnU : n % 4294967296 = (U : Int) := by rw [hU]; unfold u32n; omega
      obtain ⟨c0, hc0⟩ : ∃ c0, c0 = U % 256 := ⟨_, rfl⟩
      obtain ⟨c1, hc1⟩ : ∃ c1, c1 = U / 256 % 256 := ⟨_, rfl⟩
      obtain ⟨c2, hc2⟩ : ∃ c2, c2 = U / 65536 % 256 := ⟨_, rfl⟩
      obtain ⟨c3, hc3⟩ : ∃ c3, c3 = U / 16777216 % 256 := ⟨_, rfl⟩
      have HL4 : Hid (encTo s k ++ [c0, c1, c2, c3] = encTo s (k + 1)) := Lib.hid (by rw [HX.out]; unfold le4; rw [← hU, ← hc0, ← hc1, ← hc2, ← hc3])
      have i0 : (U : Int) % 256 = (c0 : Int) := by omega
      have i1 : (U : Int) / 256 % 256 = (c1 : Int) := by omega
      have i2 : (U : Int) / 65536 % 256 = (c2 : Int) := by omega
      have hU4 : U < 4294967296 := by rw [hU]; exact u32n_lt n
      have i3 : (U : Int) / 16777216 = (c3 : Int) := by omega
      have c0lt : c0 < 256 := by omega
      have c1lt : c1 < 256 := by omega
      have c2lt : c2 < 256 := by omega
      have c3lt : c3 < 256 := by omega
      have HB0 : Hid (HasB wo w.heap.size #[.int .i64 za, .int .i64 zb, .int .i64 zd, .int .i64 ze, .int .u8 (vn : Int), .bool zn] 56 ∧ Below w.heap.size w wo) := Lib.hid ⟨HR.out.1, HR.out.2.2⟩
      have HO0 := Lib.hid HR.out.2.1
      have hwo0 := HB0.out.1.lt
      clear hc0 hc1 hc2 hc3 hU hn HX HR
      go_wp2_with (at_builtin; refine Stop.mk ?_)
      refine Stop.go ?_
      refine wpList_app_u8 rfl _ _ 24 rfl (w.heap.size + 1) 5 Try.underlying24 Try.infoU8 u3 (4 * k) (encTo s k) rfl (own_below HO0.out ((Below.refl _ _).alloc (Nat.le_refl _) _) (Nat.le_refl _)) _ 4 4 [c0, c1, c2, c3] rfl (bytes_lit4 c0lt c1lt c2lt c3lt) (fun h => by simp at h) (by omega) (by simp; omega) ?_
      intro v1 w2 hown0 hgrow0
      have HB1 := Lib.hid (keep_app HB0.out HO0.out ((Below.refl _ _).alloc (Nat.le_refl _) _) hgrow0)
      have HO1 := Lib.hid hown0
      rw [HL4.out] at HO1
      have hwo1 := HB1.out.1.lt
      clear hown0 hgrow0
      go_wp2_with fail
      go_roundw
      case rel => exact ⟨k + 1, by omega, by go_num, Lib.hid ⟨HB1.out.1, by rw [show 4 * (k + 1) = 4 * k + 4 by omega]; exact HO1.out, HB1.out.2⟩⟩
      case measure => simp [intOf]; omega
    · obtain rfl : k = 4 := by omega
      have HB0 : Hid (HasB wo w.heap.size #[.int .i64 za, .int .i64 zb, .int .i64 zd, .int .i64 ze, .int .u8 (vn : Int), .bool zn] 56 ∧ Below w.heap.size w wo) := Lib.hid ⟨HR.out.1, HR.out.2.2⟩
      have HO0 := Lib.hid HR.out.2.1
      have hwo0 := HB0.out.1.lt
      have f1 := HB0.out.1.at 4
      have hF : ∀ d : Nat, (if zn then 1 else 0) = d → d < 256 ∧ encTo s 4 ++ [vn] ++ [d] = encL s := fun d hd => ⟨by rw [← hd]; split <;> omega, by rw [List.append_assoc]; exact HK.out.fin d (by rw [← hd]; exact HDn.out zn rfl)⟩
      have HF := Lib.hid hF
      clear HR HDn hF
      go_wp2_with (at_builtin; refine Stop.mk ?_)
      refine Stop.go ?_
      refine wpList_app_u8 rfl _ _ 24 rfl (w.heap.size + 1) 5 Try.underlying24 Try.infoU8 u3 (4 * 4) (encTo s 4) rfl (own_below HO0.out ((Below.refl _ _).alloc (Nat.le_refl _) _) (Nat.le_refl _)) _ 1 1 [vn] rfl (bytes_lit1 hv8) (fun h => by simp at h) (by omega) (by simp; omega) ?_
      intro v1 w2 hown0 hgrow0
      have HB1 := Lib.hid (keep_app HB0.out HO0.out ((Below.refl _ _).alloc (Nat.le_refl _) _) hgrow0)
      have HO1 := Lib.hid hown0
      have hwo1 := HB1.out.1.lt
      have g5 := HB1.out.1.at 5
      clear hown0 hgrow0 f1
      cases zn with
      | true =>
        have HG := Lib.hid (HF.out 1 rfl)
        clear HF
        go_wp2_with (at_builtin; refine Stop.mk ?_)
        refine Stop.go ?_
        refine wpList_app_u8 rfl _ _ 24 rfl (w.heap.size + 1) 5 Try.underlying24 Try.infoU8 v1 (4 * 4 + 1) (encTo s 4 ++ [vn]) rfl (own_below HO1.out ((Below.refl _ _).alloc (Nat.le_refl _) _) (Nat.le_refl _)) _ 1 1 [1] rfl (bytes_lit1 HG.out.1) (fun h => by simp at h) (by omega) (by simp; omega) ?_
        intro v2 w3 hown1 hgrow1
        have hkp := keep_app HB1.out HO1.out ((Below.refl _ _).alloc (Nat.le_refl _) _) hgrow1
        rw [HG.out.2] at hown1
        have HE := Lib.hid (enc_at hown1 HK.out.lt)
        have HB := Lib.hid hkp.2
        clear hown1 hgrow1 hkp
        go_wp2
        rw [HPost.out]
        exact ⟨HE.out, HB.out⟩
      | false =>
        have HG := Lib.hid (HF.out 0 rfl)
        clear HF
        go_wp2_with (at_builtin; refine Stop.mk ?_)
        refine Stop.go ?_
        refine wpList_app_u8 rfl _ _ 24 rfl (w.heap.size + 1) 5 Try.underlying24 Try.infoU8 v1 (4 * 4 + 1) (encTo s 4 ++ [vn]) rfl (own_below HO1.out ((Below.refl _ _).alloc (Nat.le_refl _) _) (Nat.le_refl _)) _ 1 1 [0] rfl (bytes_lit1 HG.out.1) (fun h => by simp at h) (by omega) (by simp; omega) ?_
        intro v2 w3 hown1 hgrow1
        have hkp := keep_app HB1.out HO1.out ((Below.refl _ _).alloc (Nat.le_refl _) _) hgrow1
        rw [HG.out.2] at hown1
        have HE := Lib.hid (enc_at hown1 HK.out.lt)
        have HB := Lib.hid hkp.2
        clear hown1 hgrow1 hkp
        go_wp2
        rw [HPost.out]
        exact ⟨HE.out, HB.out⟩
end Go.Proofs.Ytdbnadhmkfhdkaa
