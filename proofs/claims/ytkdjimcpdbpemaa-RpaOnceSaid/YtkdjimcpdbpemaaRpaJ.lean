/- rpa: steps, frames and arrays of bytes are compared; Ask whole. -/
import Derived.Test.YtkdjimcpdbpemaaRpaI
namespace Go.Proofs.Ytkdjimcpdbpemaa
open Go Go.RowKit
set_option linter.unusedVariables false

theorem equalIn_u8s (d : Nat) (t : TypeId) (n : Nat) (ht : Try.prog.underlying t = some (.array n 5)) {l r : List Nat} (hl : ∀ c ∈ l, c < 256) (hr : ∀ c ∈ r, c < 256) (ll : l.length = n) (lr : r.length = n) (w : World) :
    (Op.equalIn (d + 2) t (.agg (u8s l).toArray) (.agg (u8s r).toArray)).run Try.prog w = .ok (decide (l = r)) w := by
  have h := run_equalIn_bytes (P := Try.prog) w d t 5 n ht Try.underlying5 (fun w => by kernel_rfl) (b8 l) (b8 r) (by simp [b8, ll]) (by simp [b8, lr])
  rw [b8_cell hl, b8_cell hr, b8_beq hl hr] at h
  exact h
theorem neq_u8s (t : TypeId) (n : Nat) (ht : Try.prog.underlying t = some (.array n 5)) {l r : List Nat} (hl : ∀ c ∈ l, c < 256) (hr : ∀ c ∈ r, c < 256) (ll : l.length = n) (lr : r.length = n) (w : World) :
    (binOp .neq t (.agg (u8s l).toArray) (.agg (u8s r).toArray)).run Try.prog w = .ok (.bool (!decide (l = r))) w := by
  rw [run_neq_struct, equalIn_u8s 9998 t n ht hl hr ll lr w]
  rfl
theorem eql_u8s (t : TypeId) (n : Nat) (ht : Try.prog.underlying t = some (.array n 5)) {l r : List Nat} (hl : ∀ c ∈ l, c < 256) (hr : ∀ c ∈ r, c < 256) (ll : l.length = n) (lr : r.length = n) (w : World) :
    (binOp .eql t (.agg (u8s l).toArray) (.agg (u8s r).toArray)).run Try.prog w = .ok (.bool (decide (l = r))) w := by
  rw [run_eql_struct, equalIn_u8s 9998 t n ht hl hr ll lr w]
  rfl
theorem extract3 {A B C : List Value} {o n : Nat} (ho : A.length = o) (hn : B.length = n) : (A ++ (B ++ C)).toArray.extract o (o + n) = B.toArray := by
  subst ho hn
  simp
theorem RP.beq (p q : RP) : ((p.key == q.key) && ((p.write == q.write) && ((p.addr == q.addr) && decide (p.data = q.data)))) = decide (p = q) := by
  obtain ⟨a, b, c, d⟩ := p
  obtain ⟨a', b', c', d'⟩ := q
  rw [Bool.eq_iff_iff]
  simp
set_option maxRecDepth 100000 in
theorem eqStep (p q : RP) (hp : p.Ok) (hq : q.Ok) (w : World) : (Op.equalIn 10000 43 (.agg p.cells.toArray) (.agg q.cells.toArray)).run Try.prog w = .ok (decide (p = q)) w := by
  have he : ∀ w, (Op.equalIn 9999 34 (.agg (u8s p.data).toArray) (.agg (u8s q.data).toArray)).run Try.prog w = .ok (decide (p.data = q.data)) w := fun w => equalIn_u8s 9997 _ 64 Try.underlying34 hp.db hq.db hp.dl hq.dl w
  rw [← RP.beq]
  have hx : ∀ p : RP, p.Ok → p.cells.toArray[0]? = some (.bool p.key) ∧ p.cells.toArray[1]? = some (.bool p.write) ∧ p.cells.toArray[2]? = some (.int .i64 p.addr) ∧ p.cells.toArray.extract 3 67 = (u8s p.data).toArray := fun p hp => by
    refine ⟨rfl, rfl, rfl, ?_⟩
    have := extract3 (A := [.bool p.key, .bool p.write, .int .i64 p.addr]) (B := u8s p.data) (C := []) (o := 3) (n := 64) rfl (by rw [u8s_len, hp.dl])
    simpa [RP.cells] using this
  obtain ⟨x0, x1, x2, x3⟩ := hx p hp
  obtain ⟨y0, y1, y2, y3⟩ := hx q hq
  rw [← x3, ← y3] at he
  generalize p.cells.toArray = X at *
  generalize q.cells.toArray = Y at *
  clear x3 y3 hx hp hq
  rw [show (10000 : Nat) = 9999 + 1 from rfl, run_equalIn_struct _ _ _ _ _ (by kernel_rfl) (by kernel_rfl)]
  go_simp
  by_cases h0 : p.key = q.key <;> by_cases h1 : p.write = q.write <;> by_cases h2 : p.addr = q.addr <;> by_cases h3 : p.data = q.data <;> simp [h0, h1, h2, h3]
theorem neqStep (p q : RP) (hp : p.Ok) (hq : q.Ok) (w : World) : (binOp .neq 43 (.agg p.cells.toArray) (.agg q.cells.toArray)).run Try.prog w = .ok (.bool (!decide (p = q))) w := by
  rw [run_neq_struct, eqStep p q hp hq w]; rfl
theorem eqlStep (p q : RP) (hp : p.Ok) (hq : q.Ok) (w : World) : (binOp .eql 43 (.agg p.cells.toArray) (.agg q.cells.toArray)).run Try.prog w = .ok (.bool (decide (p = q))) w := by
  rw [run_eql_struct, eqStep p q hp hq w]; rfl

theorem RF.beq (p q : RF) : (decide (p.tag = q.tag) && (decide (p.data = q.data) && (decide (p.nonce = q.nonce) && (((p.ctr : Int) == (q.ctr : Int)) && ((p.addr == q.addr) && ((p.count == q.count) && ((p.res == q.res) && (p.typ == q.typ)))))))) = decide (p = q) := by
  obtain ⟨a, b, c, d, e, f, g, h⟩ := p
  obtain ⟨a', b', c', d', e', f', g', h'⟩ := q
  rw [Bool.eq_iff_iff]
  simp
  omega
set_option maxRecDepth 100000 in
theorem eqFrame (p q : RF) (hp : p.Ok) (hq : q.Ok) (w : World) : (Op.equalIn 10000 37 (.agg p.cells.toArray) (.agg q.cells.toArray)).run Try.prog w = .ok (decide (p = q)) w := by
  have e1 : ∀ w, (Op.equalIn 9999 33 (.agg (u8s p.tag).toArray) (.agg (u8s q.tag).toArray)).run Try.prog w = .ok (decide (p.tag = q.tag)) w := fun w => equalIn_u8s 9997 _ 32 Try.underlying33 hp.tb hq.tb hp.tl hq.tl w
  have e2 : ∀ w, (Op.equalIn 9999 34 (.agg (u8s p.data).toArray) (.agg (u8s q.data).toArray)).run Try.prog w = .ok (decide (p.data = q.data)) w := fun w => equalIn_u8s 9997 _ 64 Try.underlying34 hp.db hq.db hp.dl hq.dl w
  have e3 : ∀ w, (Op.equalIn 9999 35 (.agg (u8s p.nonce).toArray) (.agg (u8s q.nonce).toArray)).run Try.prog w = .ok (decide (p.nonce = q.nonce)) w := fun w => equalIn_u8s 9997 _ 16 Try.underlying35 hp.nb hq.nb hp.nl hq.nl w
  rw [← RF.beq]
  have hx : ∀ p : RF, p.Ok → (p.cells.toArray[112]? = some (.int .u32 (p.ctr : Int)) ∧ p.cells.toArray[113]? = some (.int .i64 p.addr) ∧ p.cells.toArray[114]? = some (.int .i64 p.count) ∧ p.cells.toArray[115]? = some (.int .i64 p.res) ∧ p.cells.toArray[116]? = some (.int .i64 p.typ)) ∧
      p.cells.toArray.extract 0 32 = (u8s p.tag).toArray ∧ p.cells.toArray.extract 32 96 = (u8s p.data).toArray ∧ p.cells.toArray.extract 96 112 = (u8s p.nonce).toArray := fun p hp => by
    refine ⟨⟨?_, ?_, ?_, ?_, ?_⟩, ?_, ?_, ?_⟩
    · rw [List.getElem?_toArray]; exact RF.at_tail hp 0 (by decide)
    · rw [List.getElem?_toArray]; exact RF.at_tail hp 1 (by decide)
    · rw [List.getElem?_toArray]; exact RF.at_tail hp 2 (by decide)
    · rw [List.getElem?_toArray]; exact RF.at_tail hp 3 (by decide)
    · rw [List.getElem?_toArray]; exact RF.at_tail hp 4 (by decide)
    · have := extract3 (A := []) (B := u8s p.tag) (C := u8s p.data ++ (u8s p.nonce ++ p.tail)) (o := 0) (n := 32) rfl (by rw [u8s_len, hp.tl])
      simpa [RF.cells] using this
    · have := extract3 (A := u8s p.tag) (B := u8s p.data) (C := u8s p.nonce ++ p.tail) (o := 32) (n := 64) (by rw [u8s_len, hp.tl]) (by rw [u8s_len, hp.dl])
      simpa [RF.cells] using this
    · have := extract3 (A := u8s p.tag ++ u8s p.data) (B := u8s p.nonce) (C := p.tail) (o := 96) (n := 16) (by simp [u8s_len, hp.tl, hp.dl]) (by rw [u8s_len, hp.nl])
      simpa [RF.cells] using this
  obtain ⟨⟨x0, x1, x2, x3, x4⟩, x5, x6, x7⟩ := hx p hp
  obtain ⟨⟨y0, y1, y2, y3, y4⟩, y5, y6, y7⟩ := hx q hq
  rw [← x5, ← y5] at e1
  rw [← x6, ← y6] at e2
  rw [← x7, ← y7] at e3
  generalize p.cells.toArray = X at *
  generalize q.cells.toArray = Y at *
  clear x5 y5 x6 y6 x7 y7 hx hp hq
  rw [show (10000 : Nat) = 9999 + 1 from rfl, run_equalIn_struct _ _ _ _ _ (by kernel_rfl) (by kernel_rfl)]
  go_simp
  by_cases h0 : p.tag = q.tag <;> by_cases h1 : p.data = q.data <;> by_cases h2 : p.nonce = q.nonce <;> by_cases h3 : (p.ctr : Int) = (q.ctr : Int) <;> by_cases h4 : p.addr = q.addr <;> by_cases h5 : p.count = q.count <;> by_cases h6 : p.res = q.res <;> by_cases h7 : p.typ = q.typ <;> simp [h0, h1, h2, h3, h4, h5, h6, h7]
theorem neqFrame (p q : RF) (hp : p.Ok) (hq : q.Ok) (w : World) : (binOp .neq 37 (.agg p.cells.toArray) (.agg q.cells.toArray)).run Try.prog w = .ok (.bool (!decide (p = q))) w := by
  rw [run_neq_struct, eqFrame p q hp hq w]; rfl
theorem eqlFrame (p q : RF) (hp : p.Ok) (hq : q.Ok) (w : World) : (binOp .eql 37 (.agg p.cells.toArray) (.agg q.cells.toArray)).run Try.prog w = .ok (.bool (decide (p = q))) w := by
  rw [run_eql_struct, eqFrame p q hp hq w]; rfl

theorem ask_any (A : RA) (f : RF) (g : Nat) (w : World) (h : AreaAt w g A) (hA : A.Ok) (hf : f.Ok) :
    Calls Try.prog 12 #[.pointer (some ⟨g, 0, none⟩), f.val] w fun e w' => e = .returned (A.askStep f).val ∧ AreaAt w' g (A.ask f) ∧ w.grownBy w' (some g) := by
  have key : Calls Try.prog 12 #[.pointer (some ⟨g, 0, none⟩), f.val] w (AskQ w g (A.ask f)) := by
    by_cases h1 : f.typ = 1
    · cases hh : A.s.has with
      | true => exact ask_has A f g w h hA hf h1 hh (by simp [RA.ask, RA.askNow, RA.askStep, h1, hh])
      | false => exact ask_key A f g w h hA hf h1 hh (by simp [RA.ask, RA.askNow, RA.askStep, h1, hh])
    by_cases h3 : f.typ = 3
    · by_cases hr : A.refuse f = 0
      · exact ask_write A f g w h hA hf h3 hr (by simp [RA.ask, RA.askNow, RA.askStep, h3, hr])
      · exact ask_refused A f g w h hA hf _ h3 rfl hr (by simp [RA.ask, RA.askNow, RA.askStep, h3, hr])
    by_cases h2 : f.typ = 2
    · exact ask_count A f g w h hA hf h2 (by simp [RA.ask, RA.askNow, RA.askStep, h2])
    by_cases h4 : f.typ = 4
    · exact ask_read A f g w h hA hf h4 (by simp [RA.ask, RA.askNow, RA.askStep, h4])
    by_cases h5 : f.typ = 5
    · exact ask_result A f g w h hA hf h5 (by simp [RA.ask, RA.askNow, RA.askStep, h5])
    exact ask_other A f g w h hA hf h1 h3 h2 h4 h5 (by simp [RA.ask, RA.askNow, RA.askStep, h1, h2, h3, h4, h5])
  exact key
end Go.Proofs.Ytkdjimcpdbpemaa
