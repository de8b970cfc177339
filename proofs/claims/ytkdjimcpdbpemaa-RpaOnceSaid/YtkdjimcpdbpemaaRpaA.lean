/- rpa: frames: their cells, their bytes (plain). -/
import Derived.Test.YtkdjimcpdbpemaaShaEE
import Derived.Test.YtkdjimcpdbpemaaShaO
import Derived.Deep.MidRow
namespace Go.Proofs.Ytkdjimcpdbpemaa
open Go Go.RowKit
set_option linter.unusedVariables false

/-- A frame. -/
structure RF where
  tag : List Nat
  data : List Nat
  nonce : List Nat
  ctr : Nat
  addr : Int
  count : Int
  res : Int
  typ : Int
  deriving DecidableEq
def RF.tail (f : RF) : List Value := [.int .u32 (f.ctr : Int), .int .i64 f.addr, .int .i64 f.count, .int .i64 f.res, .int .i64 f.typ]
/-- Its cells. -/
def RF.cells (f : RF) : List Value := u8s f.tag ++ (u8s f.data ++ (u8s f.nonce ++ f.tail))
def RF.val (f : RF) : Value := .agg f.cells.toArray
structure RF.Ok (f : RF) : Prop where
  tl : f.tag.length = 32
  dl : f.data.length = 64
  nl : f.nonce.length = 16
  tb : ∀ c ∈ f.tag, c < 256
  db : ∀ c ∈ f.data, c < 256
  nb : ∀ c ∈ f.nonce, c < 256
  cb : f.ctr < 4294967296
  i1 : I64 f.addr
  i2 : I64 f.count
  i3 : I64 f.res
  i4 : I64 f.typ
theorem RF.cells_len {f : RF} (h : f.Ok) : f.cells.length = 117 := by simp [RF.cells, RF.tail, u8s_len, h.tl, h.dl, h.nl]
theorem RF.at_tail {f : RF} (h : f.Ok) (k : Nat) (hk : k < 5) : f.cells[112 + k]? = f.tail[k]? := by
  unfold RF.cells
  rw [List.getElem?_append_right (by rw [u8s_len, h.tl]; omega), List.getElem?_append_right (by rw [u8s_len, u8s_len, h.tl, h.dl]; omega), List.getElem?_append_right (by rw [u8s_len, u8s_len, u8s_len, h.tl, h.dl, h.nl]; omega)]
  congr 1
  rw [u8s_len, u8s_len, u8s_len, h.tl, h.dl, h.nl]
  omega
theorem RF.at_tag {f : RF} (h : f.Ok) (k : Nat) (hk : k < 32) : f.cells[k]? = some (.int .u8 ((f.tag.getD k 0 : Nat) : Int)) := by
  unfold RF.cells
  rw [List.getElem?_append_left (by rw [u8s_len, h.tl]; omega)]
  have := h.tl
  simp [u8s, List.getD, show k < f.tag.length by omega]
theorem RF.at_data {f : RF} (h : f.Ok) (k : Nat) (hk : k < 64) : f.cells[32 + k]? = some (.int .u8 ((f.data.getD k 0 : Nat) : Int)) := by
  unfold RF.cells
  rw [List.getElem?_append_right (by rw [u8s_len, h.tl]; omega), List.getElem?_append_left (by rw [u8s_len, u8s_len, h.tl, h.dl]; omega)]
  have := h.dl
  rw [u8s_len, h.tl, show 32 + k - 32 = k by omega]
  simp [u8s, List.getD, show k < f.data.length by omega]
theorem RF.at_nonce {f : RF} (h : f.Ok) (k : Nat) (hk : k < 16) : f.cells[96 + k]? = some (.int .u8 ((f.nonce.getD k 0 : Nat) : Int)) := by
  unfold RF.cells
  rw [List.getElem?_append_right (by rw [u8s_len, h.tl]; omega), List.getElem?_append_right (by rw [u8s_len, u8s_len, h.tl, h.dl]; omega), List.getElem?_append_left (by rw [u8s_len, u8s_len, u8s_len, h.tl, h.dl, h.nl]; omega)]
  have := h.nl
  rw [u8s_len, u8s_len, h.tl, h.dl, show 96 + k - 32 - 64 = k by omega]
  simp [u8s, List.getD, show k < f.nonce.length by omega]
/-- A number of two bytes, of four. -/
def be2 (v : Int) : List Nat := [((v / 256) % 256).toNat, (v % 256).toNat]
def be4 (c : Nat) : List Nat := [c / 16777216 % 256, c / 65536 % 256, c / 256 % 256, c % 256]
/-- A frame's bytes. -/
def RF.enc (f : RF) : List Nat := [0, 0, 0, 0] ++ (f.tag ++ (f.data ++ (f.nonce ++ (be4 f.ctr ++ (be2 f.addr ++ (be2 f.count ++ (be2 f.res ++ be2 f.typ)))))))
theorem be2_lt (v : Int) : ∀ c ∈ be2 v, c < 256 := by
  intro c hc
  simp only [be2, List.mem_cons, List.not_mem_nil, or_false] at hc
  omega
theorem be4_lt (v : Nat) : ∀ c ∈ be4 v, c < 256 := by
  intro c hc
  simp only [be4, List.mem_cons, List.not_mem_nil, or_false] at hc
  omega
theorem RF.enc_len {f : RF} (h : f.Ok) : f.enc.length = 128 := by simp [RF.enc, be2, be4, h.tl, h.dl, h.nl]
theorem RF.enc_lt {f : RF} (h : f.Ok) : ∀ c ∈ f.enc, c < 256 := by
  intro c hc
  simp only [RF.enc, List.mem_append] at hc
  rcases hc with q | q | q | q | q | q | q | q | q
  · simp at q; omega
  · exact h.tb c q
  · exact h.db c q
  · exact h.nb c q
  · exact be4_lt _ c q
  · exact be2_lt _ c q
  · exact be2_lt _ c q
  · exact be2_lt _ c q
  · exact be2_lt _ c q
end Go.Proofs.Ytkdjimcpdbpemaa
