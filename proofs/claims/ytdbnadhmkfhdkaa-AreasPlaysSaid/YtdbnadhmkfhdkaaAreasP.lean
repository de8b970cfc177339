/- areas: what was encoded is decoded; of; '==' of the reference's settings. -/
import Derived.Test.YtdbnadhmkfhdkaaAreasO
namespace Go.Proofs.Ytdbnadhmkfhdkaa
open Go Go.RowKit
set_option linter.unusedVariables false

theorem encL_list (s : Stg) : encL s = [u32n s.a % 256, u32n s.a / 256 % 256, u32n s.a / 65536 % 256, u32n s.a / 16777216 % 256, u32n s.b % 256, u32n s.b / 256 % 256, u32n s.b / 65536 % 256, u32n s.b / 16777216 % 256, u32n s.d % 256, u32n s.d / 256 % 256, u32n s.d / 65536 % 256, u32n s.d / 16777216 % 256, u32n s.e % 256, u32n s.e / 256 % 256, u32n s.e / 65536 % 256, u32n s.e / 16777216 % 256, s.v.toNat, doneN s] := by
  simp [encL, encTo, le4, Stg.sz]
theorem u32_parts (U : Nat) (h : U < 4294967296) : U % 256 + 256 * (U / 256 % 256) + 65536 * (U / 65536 % 256) + 16777216 * (U / 16777216 % 256) = U := by omega
theorem encL_err (s : Stg) : decErr (encL s) = 0 := by
  unfold decErr
  rw [if_neg]
  rw [encL_len, encL_list]
  have : doneN s ≤ 1 := by unfold doneN; split <;> omega
  simp
  omega
theorem encL_ok (s : Stg) (hs : s.wf) : decS (encL s) = ⟨(u32n s.a : Nat), (u32n s.b : Nat), (u32n s.d : Nat), (u32n s.e : Nat), s.v, s.dn⟩ := by
  unfold decS
  rw [encL_err, if_pos rfl]
  unfold decOk
  rw [show numB (encL s) 0 = u32n s.a by rw [encL_list]; exact u32_parts _ (u32n_lt _), show numB (encL s) 1 = u32n s.b by rw [encL_list]; exact u32_parts _ (u32n_lt _), show numB (encL s) 2 = u32n s.d by rw [encL_list]; exact u32_parts _ (u32n_lt _), show numB (encL s) 3 = u32n s.e by rw [encL_list]; exact u32_parts _ (u32n_lt _),
    show (encL s).getD 16 0 = s.v.toNat by rw [encL_list]; rfl, show (encL s).getD 17 0 = doneN s by rw [encL_list]; rfl]
  have h5 := hs.2.2.2.2
  rw [show ((s.v.toNat : Nat) : Int) = s.v by omega]
  congr 1
  unfold doneN
  cases s.dn <;> rfl
theorem encL_same (s : Stg) (hs : s.wf) (h : ∀ k : Nat, k < 4 → 0 ≤ s.sz k ∧ s.sz k ≤ 4294967295) : decS (encL s) = s := by
  rw [encL_ok s hs]
  have h0 := h 0 (by omega)
  have h1 := h 1 (by omega)
  have h2 := h 2 (by omega)
  have h3 := h 3 (by omega)
  simp only [Stg.sz] at h0 h1 h2 h3
  have e : ∀ n : Int, 0 ≤ n ∧ n ≤ 4294967295 → ((u32n n : Nat) : Int) = n := by intro n hn; unfold u32n; omega
  rw [e _ h0, e _ h1, e _ h2, e _ h3]

set_option maxRecDepth 100000 in
theorem eqStg13 (x y : Stg) (w : World) : (Op.equalIn 10000 56 (.agg #[.int .i64 x.a, .int .i64 x.b, .int .i64 x.d, .int .i64 x.e, .int .u8 x.v, .bool x.dn]) (.agg #[.int .i64 y.a, .int .i64 y.b, .int .i64 y.d, .int .i64 y.e, .int .u8 y.v, .bool y.dn])).run Try.prog w = .ok ((x.a == y.a && x.b == y.b && x.d == y.d && x.e == y.e) && x.v == y.v && x.dn == y.dn) w := by
  have h4 : ∀ w, (Op.equalIn 9999 34 (.agg #[.int .i64 x.a, .int .i64 x.b, .int .i64 x.d, .int .i64 x.e]) (.agg #[.int .i64 y.a, .int .i64 y.b, .int .i64 y.d, .int .i64 y.e])).run Try.prog w = .ok (x.a == y.a && x.b == y.b && x.d == y.d && x.e == y.e) w := fun w => eqFourD 9997 _ _ _ _ _ _ _ _ w
  generalize hq : (x.a == y.a && x.b == y.b && x.d == y.d && x.e == y.e) = q at h4 ⊢
  rw [show (10000 : Nat) = 9999 + 1 from rfl, run_equalIn_struct _ _ _ _ _ (by kernel_rfl) (by kernel_rfl)]
  go_simp
  cases q <;> by_cases h5 : x.v = y.v <;> by_cases h6 : x.dn = y.dn <;> simp [h5, h6]

set_option maxRecDepth 100000 in
set_option maxHeartbeats 2000000 in
theorem aof2_any (s : Stg) (w : World) :
    Calls Try.prog 25 #[.agg #[.int .i64 s.a, .int .i64 s.b, .int .i64 s.d, .int .i64 s.e, .int .u8 s.v, .bool s.dn]] w fun x w' => x = .returned (.agg #[.int .i64 s.a, .int .i64 s.b, .int .i64 s.d, .int .i64 s.e, .int .u8 s.v, .bool s.dn]) ∧ Below w.heap.size w w' := by
  obtain ⟨za, zb, zd, ze, zv, zn⟩ := s
  go_enter Try.func25, Try.ntmps25
  go_wp2_with fail
  refine bodyPost_ret (v := .agg #[.int .i64 za, .int .i64 zb, .int .i64 zd, .int .i64 ze, .int .u8 zv, .bool zn]) (by simp [results, Try.results25, go_sem]) rfl ⟨rfl, ?_⟩
  exact ((Below.refl _ _).alloc (Nat.le_refl _) _).alloc (by simp) _

end Go.Proofs.Ytdbnadhmkfhdkaa
