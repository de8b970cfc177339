/- rpa: the area: its cells, what it does (plain); a block in three parts. -/
import Derived.Test.YtkdjimcpdbpemaaRpaD
import Derived.Great.BuildSlice
namespace Go.Proofs.Ytkdjimcpdbpemaa
open Go Go.RowKit
set_option linter.unusedVariables false

/-! ### the walk stops at an operation -/
theorem stop_build {P : Program} {ops : Array Oper} {rest : List Oper} {o : Oper} {a : Act} {w : World} {Q : Exit → Act → World → Prop} (t : TypeId) (parts : Array (Nat × Operand)) (ho : o.op = .build t parts)
    (h : Stop (wpList P ops Q (o :: rest) a w)) : wpList P ops Q (o :: rest) a w := h
theorem stop_dst {P : Program} {ops : Array Oper} {rest : List Oper} {o : Oper} {a : Act} {w : World} {Q : Exit → Act → World → Prop} (n : Nat) (hd : o.dst = some n)
    (h : Stop (wpList P ops Q (o :: rest) a w)) : wpList P ops Q (o :: rest) a w := h
theorem stop_store {P : Program} {ops : Array Oper} {rest : List Oper} {o : Oper} {a : Act} {w : World} {Q : Exit → Act → World → Prop} (n : Nat) (t : TypeId) (v : Operand) (ho : o.op = .store t (.tmp n) v)
    (h : Stop (wpList P ops Q (o :: rest) a w)) : wpList P ops Q (o :: rest) a w := h

/-! ### a block in three parts -/
theorem splice_mid {α : Type} (A B C V : List α) {o : Nat} (ho : A.length = o) (hv : V.length = B.length) : splice (A ++ (B ++ C)) o V = A ++ (V ++ C) := by
  subst ho
  unfold splice
  rw [List.take_left' rfl, hv]
  congr 2
  rw [← List.append_assoc, List.drop_left' (by simp)]
theorem HasB.range3 {w : World} {g o : Nat} {T : TypeId} {A B C : List Value} (h : HasB w g (A ++ (B ++ C)).toArray T) (ho : A.length = o) : w.rangeAt g o B := fun j v hv => by
  subst ho
  have hj : j < B.length := (List.getElem?_eq_some_iff.1 hv).1
  rw [h.at]
  simp only [List.getElem?_toArray]
  rw [List.getElem?_append_right (by omega), Nat.add_sub_cancel_left, List.getElem?_append_left hj]
  exact hv
theorem HasB.put3 {w : World} {g o : Nat} {T : TypeId} {A B C : List Value} (h : HasB w g (A ++ (B ++ C)).toArray T) (ho : A.length = o) (V : List Value) (hv : V.length = B.length) : HasB (w.setCells g o V) g (A ++ (V ++ C)).toArray T := by
  have := HasB.spliced V o h (by simp; omega)
  rw [splice_mid A B C V ho hv] at this
  exact this
theorem HasB.put1 {w : World} {g o : Nat} {T : TypeId} {A C : List Value} {x : Value} (h : HasB w g (A ++ ([x] ++ C)).toArray T) (ho : A.length = o) (v : Value) : HasB (w.setCell ⟨g, o, none⟩ v) g (A ++ ([v] ++ C)).toArray T := HasB.put3 h ho [v] rfl
theorem HasB.cell1 {w : World} {g o : Nat} {T : TypeId} {A C : List Value} {x : Value} (h : HasB w g (A ++ ([x] ++ C)).toArray T) (ho : A.length = o) : w.cell? ⟨g, o, none⟩ = some x := HasB.range3 h ho 0 x rfl

/-! ### values that are built -/
theorem splice_foldl (V : List Value) : ∀ (Z : List Value) (o k : Nat), o + k + V.length ≤ Z.length → (V.zipIdx k).foldl (fun cs (x : Value × Nat) => cs.setIfInBounds (o + x.2) x.1) Z.toArray = (splice Z (o + k) V).toArray := by
  induction V with
  | nil => intro Z o k h; simp [splice]
  | cons v r ih =>
    intro Z o k h
    simp only [List.length_cons] at h
    simp only [List.zipIdx_cons, List.foldl_cons, List.setIfInBounds_toArray]
    rw [ih (Z.set (o + k) v) o (k + 1) (by simp; omega), ← splice_cons (by omega)]
    rfl
theorem fill_step (place : Nat → Option (Nat × Nat)) (Z : List Value) (i : Nat) (v : Value) (rest : List (Nat × Value)) (o n : Nat) (V : List Value) (hp : place i = some (o, n)) (hv : v.cells = V.toArray) (hn : V.length = n) (hl : o + n ≤ Z.length) :
    Instr.fill place Z.toArray ((i, v) :: rest) = Instr.fill place (splice Z o V).toArray rest := by
  have h := splice_foldl V Z o 0 (by omega)
  simp only [Instr.fill, hp, hv, List.size_toArray, hn]
  rw [if_neg (by simp; omega)]
  congr 1
  rw [Array.zipIdx_toArray, List.foldl_toArray]
  exact h
theorem splice_one (Z : List Value) (o : Nat) (x : Value) (h : o < Z.length) : splice Z o [x] = Z.set o x := by
  rw [← splice_cons h]; simp [splice]

/-! ### frames that are built -/
def frPl : Array (Nat × Nat) := #[(0, 32), (32, 64), (96, 16), (112, 1), (113, 1), (114, 1), (115, 1), (116, 1)]
def RF.zero : RF := ⟨List.replicate 32 0, List.replicate 64 0, List.replicate 16 0, 0, 0, 0, 0, 0⟩
theorem i64_0 : I64 0 := by unfold I64; omega
theorem RF.zero_ok : RF.zero.Ok := ⟨rfl, rfl, rfl, by decide, by decide, by decide, by decide, i64_0, i64_0, i64_0, i64_0⟩
theorem RF.zero_cells : zF = RF.zero.cells.toArray := by kernel_rfl
theorem built_frame (parts : List (Nat × Value)) : Try.prog.built 37 parts = Instr.fill (frPl[·]?) RF.zero.cells.toArray parts := by kernel_rfl
theorem fillF_data {f : RF} (h : f.Ok) (d : List Nat) (hd : d.length = 64) (rest : List (Nat × Value)) : Instr.fill (frPl[·]?) f.cells.toArray ((1, .agg (u8s d).toArray) :: rest) = Instr.fill (frPl[·]?) ({ f with data := d } : RF).cells.toArray rest := by
  have hl := RF.cells_len h
  rw [fill_step _ f.cells 1 _ rest 32 64 (u8s d) rfl rfl (by rw [u8s_len, hd]) (by omega)]
  unfold RF.cells
  rw [splice_mid (u8s f.tag) (u8s f.data) _ (u8s d) (by rw [u8s_len, h.tl]) (by rw [u8s_len, u8s_len, hd, h.dl])]
  rfl
theorem fillF_nonce {f : RF} (h : f.Ok) (d : List Nat) (hd : d.length = 16) (rest : List (Nat × Value)) : Instr.fill (frPl[·]?) f.cells.toArray ((2, .agg (u8s d).toArray) :: rest) = Instr.fill (frPl[·]?) ({ f with nonce := d } : RF).cells.toArray rest := by
  have hl := RF.cells_len h
  rw [fill_step _ f.cells 2 _ rest 96 16 (u8s d) rfl rfl (by rw [u8s_len, hd]) (by omega)]
  have e : ∀ (x : List Nat), ({ f with nonce := x } : RF).cells = (u8s f.tag ++ u8s f.data) ++ (u8s x ++ f.tail) := fun x => by simp [RF.cells, RF.tail, List.append_assoc]
  have e0 := e f.nonce
  rw [show ({ f with nonce := f.nonce } : RF) = f from rfl] at e0
  rw [e d, e0, splice_mid _ (u8s f.nonce) _ (u8s d) (by simp [u8s_len, h.tl, h.dl]) (by rw [u8s_len, u8s_len, hd, h.nl])]
theorem RF.set_tail {f : RF} (h : f.Ok) (k : Nat) (x : Value) (hk : k < 5) : f.cells.set (112 + k) x = u8s f.tag ++ (u8s f.data ++ (u8s f.nonce ++ f.tail.set k x)) := by
  unfold RF.cells
  rw [List.set_append_right _ _ (by rw [u8s_len, h.tl]; omega), List.set_append_right _ _ (by rw [u8s_len, u8s_len, h.tl, h.dl]; omega), List.set_append_right _ _ (by rw [u8s_len, u8s_len, u8s_len, h.tl, h.dl, h.nl]; omega)]
  rw [u8s_len, u8s_len, u8s_len, h.tl, h.dl, h.nl, show 112 + k - 32 - 64 - 16 = k by omega]
theorem fillF_ctr {f : RF} (h : f.Ok) (c : Nat) (rest : List (Nat × Value)) : Instr.fill (frPl[·]?) f.cells.toArray ((3, .int .u32 (c : Int)) :: rest) = Instr.fill (frPl[·]?) ({ f with ctr := c } : RF).cells.toArray rest := by
  have hl := RF.cells_len h
  rw [fill_step _ f.cells 3 _ rest 112 1 [.int .u32 (c : Int)] rfl rfl rfl (by omega), splice_one _ _ _ (by omega), show 112 = 112 + 0 from rfl, RF.set_tail h 0 _ (by decide)]
  rfl
theorem fillF_addr {f : RF} (h : f.Ok) (c : Int) (rest : List (Nat × Value)) : Instr.fill (frPl[·]?) f.cells.toArray ((4, .int .i64 c) :: rest) = Instr.fill (frPl[·]?) ({ f with addr := c } : RF).cells.toArray rest := by
  have hl := RF.cells_len h
  rw [fill_step _ f.cells 4 _ rest 113 1 [.int .i64 c] rfl rfl rfl (by omega), splice_one _ _ _ (by omega), show 113 = 112 + 1 from rfl, RF.set_tail h 1 _ (by decide)]
  rfl
theorem fillF_count {f : RF} (h : f.Ok) (c : Int) (rest : List (Nat × Value)) : Instr.fill (frPl[·]?) f.cells.toArray ((5, .int .i64 c) :: rest) = Instr.fill (frPl[·]?) ({ f with count := c } : RF).cells.toArray rest := by
  have hl := RF.cells_len h
  rw [fill_step _ f.cells 5 _ rest 114 1 [.int .i64 c] rfl rfl rfl (by omega), splice_one _ _ _ (by omega), show 114 = 112 + 2 from rfl, RF.set_tail h 2 _ (by decide)]
  rfl
theorem fillF_res {f : RF} (h : f.Ok) (c : Int) (rest : List (Nat × Value)) : Instr.fill (frPl[·]?) f.cells.toArray ((6, .int .i64 c) :: rest) = Instr.fill (frPl[·]?) ({ f with res := c } : RF).cells.toArray rest := by
  have hl := RF.cells_len h
  rw [fill_step _ f.cells 6 _ rest 115 1 [.int .i64 c] rfl rfl rfl (by omega), splice_one _ _ _ (by omega), show 115 = 112 + 3 from rfl, RF.set_tail h 3 _ (by decide)]
  rfl
theorem fillF_typ {f : RF} (h : f.Ok) (c : Int) (rest : List (Nat × Value)) : Instr.fill (frPl[·]?) f.cells.toArray ((7, .int .i64 c) :: rest) = Instr.fill (frPl[·]?) ({ f with typ := c } : RF).cells.toArray rest := by
  have hl := RF.cells_len h
  rw [fill_step _ f.cells 7 _ rest 116 1 [.int .i64 c] rfl rfl rfl (by omega), splice_one _ _ _ (by omega), show 116 = 112 + 4 from rfl, RF.set_tail h 4 _ (by decide)]
  rfl

/-! ### the area -/
/-- What was asked last. -/
inductive RN where
  | none
  | keying (r : Int)
  | writing (r a : Int)
  | counting (n : List Nat)
  | reading (n : List Nat) (a : Int)
  | other (k : Int)
def RN.val : RN → Value
  | .none => .nilIface
  | .keying r => .iface 71 (.agg #[.int .i64 r])
  | .writing r a => .iface 74 (.agg #[.int .i64 r, .int .i64 a])
  | .counting n => .iface 76 (.agg (u8s n).toArray)
  | .reading n a => .iface 78 (.agg (u8s n ++ [Value.int .i64 a]).toArray)
  | .other k => .iface 80 (.agg #[.int .i64 k])
def RN.Ok : RN → Prop
  | .none => True
  | .keying r => I64 r
  | .writing r a => I64 r ∧ I64 a
  | .counting n => n.length = 16 ∧ ∀ c ∈ n, c < 256
  | .reading n a => (n.length = 16 ∧ ∀ c ∈ n, c < 256) ∧ I64 a
  | .other k => I64 k
/-- What lasts. -/
structure RS where
  key : List Nat
  has : Bool
  ctr : Nat
def RS.cells (s : RS) : List Value := u8s s.key ++ [.bool s.has, .int .u32 (s.ctr : Int)]
def RS.val (s : RS) : Value := .agg s.cells.toArray
structure RS.Ok (s : RS) : Prop where
  kl : s.key.length = 32
  kb : ∀ c ∈ s.key, c < 256
  cb : s.ctr < 4294967296
/-- What is to be done. -/
structure RP where
  key : Bool
  write : Bool
  addr : Int
  data : List Nat
  deriving DecidableEq
def RP.cells (p : RP) : List Value := [.bool p.key, .bool p.write, .int .i64 p.addr] ++ u8s p.data
def RP.val (p : RP) : Value := .agg p.cells.toArray
structure RP.Ok (p : RP) : Prop where
  dl : p.data.length = 64
  db : ∀ c ∈ p.data, c < 256
  i1 : I64 p.addr
def RP.zero : RP := ⟨false, false, 0, List.replicate 64 0⟩
theorem RP.zero_ok : RP.zero.Ok := ⟨rfl, by decide, i64_0⟩
structure RA where
  places : Int
  s : RS
  now : RN
  last : RN
  step : RP
structure RA.Ok (A : RA) : Prop where
  pb : 1 ≤ A.places ∧ A.places ≤ 256
  s : A.s.Ok
  now : A.now.Ok
  last : A.last.Ok
  step : A.step.Ok
def RA.cells (A : RA) : List Value := [.int .i64 A.places] ++ (A.s.cells ++ ([A.now.val, A.last.val] ++ A.step.cells))
theorem RS.len {s : RS} (h : s.Ok) : s.cells.length = 34 := by simp [RS.cells, u8s_len, h.kl]
theorem RP.len {p : RP} (h : p.Ok) : p.cells.length = 67 := by simp [RP.cells, u8s_len, h.dl]
theorem RA.len {A : RA} (h : A.Ok) : A.cells.length = 104 := by simp [RA.cells, RS.len h.s, RP.len h.step]
def stPl : Array (Nat × Nat) := #[(0, 1), (1, 1), (2, 1), (3, 64)]
theorem built_step (parts : List (Nat × Value)) : Try.prog.built 43 parts = Instr.fill (stPl[·]?) RP.zero.cells.toArray parts := by kernel_rfl
def saPl : Array (Nat × Nat) := #[(0, 32), (32, 1), (33, 1)]
def RS.zero : RS := ⟨List.replicate 32 0, false, 0⟩
theorem RS.zero_ok : RS.zero.Ok := ⟨rfl, by decide, by decide⟩
theorem built_state (parts : List (Nat × Value)) : Try.prog.built 31 parts = Instr.fill (saPl[·]?) RS.zero.cells.toArray parts := by kernel_rfl

def RA.refuse (A : RA) (f : RF) : Int :=
  if A.s.has = false then 7
  else if f.tag ≠ f.tagBy A.s.key then 2
  else if A.s.ctr = 4294967295 then 5
  else if f.ctr ≠ A.s.ctr then 3
  else if ¬(0 ≤ f.addr ∧ f.addr < A.places) ∨ f.count ≠ 1 then 4
  else 0
def RA.askNow (A : RA) (f : RF) : RN :=
  if f.typ = 1 then .keying (if A.s.has then 1 else 0)
  else if f.typ = 3 then .writing (A.refuse f) f.addr
  else if f.typ = 2 then .counting f.nonce
  else if f.typ = 4 then .reading f.nonce f.addr
  else if f.typ = 5 then A.last
  else .other f.typ
def RA.askStep (A : RA) (f : RF) : RP :=
  if f.typ = 1 then (if A.s.has then RP.zero else ⟨true, false, 0, f.data.take 32 ++ List.replicate 32 0⟩)
  else if f.typ = 3 then (if A.refuse f = 0 then ⟨false, true, f.addr, f.data⟩ else RP.zero)
  else RP.zero
def RA.ask (A : RA) (f : RF) : RA :=
  { A with now := A.askNow f, last := if f.typ = 1 ∨ f.typ = 3 then A.askNow f else A.last, step := A.askStep f }
def RA.done (A : RA) (p : RP) (ok : Bool) : RA :=
  if p ≠ A.step ∨ p = RP.zero then A else
  match A.now with
  | .keying _ => { A with step := RP.zero, s := if ok then { A.s with key := p.data.take 32, has := true } else A.s, now := .keying (if ok then 0 else 6), last := .keying (if ok then 0 else 6) }
  | .writing _ a => { A with step := RP.zero, s := if ok then { A.s with ctr := (A.s.ctr + 1) % 4294967296 } else A.s, now := .writing (if ok then 0 else 6) a, last := .writing (if ok then 0 else 6) a }
  | _ => { A with step := RP.zero }
def RA.signed (A : RA) (f : RF) : RF := if A.s.has then f.sign A.s.key else f
/-- A read's answer: what is read, if it may be. -/
def RA.readF (A : RA) (n : List Nat) (a : Int) (d : List Nat) (ok : Bool) : RF :=
  if A.s.has = false then { RF.zero with typ := 1024, nonce := n, addr := a, res := 7 }
  else if (0 ≤ a ∧ a < A.places) ∧ ok = true then ({ RF.zero with typ := 1024, nonce := n, addr := a, res := 0, data := d, count := 1 } : RF).sign A.s.key
  else ({ RF.zero with typ := 1024, nonce := n, addr := a, res := 4 } : RF).sign A.s.key
def RA.answer (A : RA) (d : List Nat) (ok : Bool) : RF :=
  match A.now with
  | .none => RF.zero
  | .keying r => { RF.zero with typ := 256, res := r }
  | .writing r a => A.signed { RF.zero with typ := 768, res := r, addr := a, ctr := A.s.ctr }
  | .counting n => if A.s.has = false then { RF.zero with typ := 512, nonce := n, res := 7 } else ({ RF.zero with typ := 512, nonce := n, ctr := A.s.ctr } : RF).sign A.s.key
  | .reading n a => A.readF n a d ok
  | .other k => { RF.zero with typ := IntKind.i64.wrap (k * 256), res := 1 }
theorem RA.refuse_i64 (A : RA) (f : RF) : I64 (A.refuse f) := by
  unfold RA.refuse I64
  repeat' split
  all_goals omega
theorem RA.ask_ok {A : RA} (h : A.Ok) {f : RF} (hf : f.Ok) : (A.ask f).Ok := by
  have hn : (A.askNow f).Ok := by
    unfold RA.askNow
    split
    · show I64 _
      split <;> (unfold I64; omega)
    split
    · exact ⟨A.refuse_i64 f, hf.i1⟩
    split
    · exact ⟨hf.nl, hf.nb⟩
    split
    · exact ⟨⟨hf.nl, hf.nb⟩, hf.i1⟩
    split
    · exact h.last
    · exact hf.i4
  refine ⟨h.pb, h.s, hn, ?_, ?_⟩
  · show RN.Ok (if _ then _ else _)
    split
    · exact hn
    · exact h.last
  · show (A.askStep f).Ok
    unfold RA.askStep
    split
    · split
      · exact RP.zero_ok
      · refine ⟨by simp [hf.dl], fun c hc => ?_, i64_0⟩
        rcases List.mem_append.1 hc with q | q
        · exact hf.db c (List.mem_of_mem_take q)
        · have := List.eq_of_mem_replicate q; omega
    · split
      · split
        · exact ⟨hf.dl, hf.db, hf.i1⟩
        · exact RP.zero_ok
      · exact RP.zero_ok
theorem RA.done_ok {A : RA} (h : A.Ok) {p : RP} (hp : p.Ok) (ok : Bool) : (A.done p ok).Ok := by
  have h6 : I64 (if ok = true then 0 else 6) := by split <;> (unfold I64; omega)
  have hn := h.now
  unfold RA.done
  split
  · exact h
  · split
    · refine ⟨h.pb, ?_, h6, h6, RP.zero_ok⟩
      show RS.Ok (if _ then _ else _)
      split
      · exact ⟨by simp [hp.dl], fun c hc => hp.db c (List.mem_of_mem_take hc), h.s.cb⟩
      · exact h.s
    · rename_i r a e
      rw [e] at hn
      refine ⟨h.pb, ?_, ⟨h6, hn.2⟩, ⟨h6, hn.2⟩, RP.zero_ok⟩
      show RS.Ok (if _ then _ else _)
      split
      · exact ⟨h.s.kl, h.s.kb, Nat.mod_lt _ (by decide)⟩
      · exact h.s
    · exact ⟨h.pb, h.s, h.now, h.last, RP.zero_ok⟩
theorem RF.enc_drop {f : RF} (h : f.tag.length = 32) : f.enc.drop 36 = f.data ++ (f.nonce ++ (be4 f.ctr ++ (be2 f.addr ++ (be2 f.count ++ (be2 f.res ++ be2 f.typ))))) := by
  unfold RF.enc
  rw [← List.append_assoc]
  exact List.drop_left' (by simp [h])
theorem RF.tagBy_sign (f : RF) (h : f.tag.length = 32) (k : List Nat) : (f.sign k).tagBy k = f.tagBy k := by
  have h2 : (f.sign k).tag.length = 32 := tagBy_len f k
  have e : (f.sign k).enc.drop 36 = f.enc.drop 36 := by rw [RF.enc_drop h2, RF.enc_drop h]; rfl
  show macS k ((f.sign k).enc.drop 36) = macS k (f.enc.drop 36)
  rw [e]
end Go.Proofs.Ytkdjimcpdbpemaa
