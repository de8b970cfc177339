/- geom: Decode: what bytes tell as a shape (plain); the walk. -/
import Derived.Test.YteclcciionjjcaaGeomJ
import Derived.Test.YteclcciionjjcaaChunkB
import Derived.Test.YteclcciionjjcaaRowK
import Derived.Lib.EndianBits
import Derived.Laws.StructEq
namespace Go.Proofs.Yteclcciionjjcaa
open Go Go.RowKit
set_option linter.unusedVariables false

def numB (b : List Nat) (k : Nat) : Nat := b.getD (4 * k) 0 + 256 * b.getD (4 * k + 1) 0 + 65536 * b.getD (4 * k + 2) 0 + 16777216 * b.getD (4 * k + 3) 0
def cfgB (b : List Nat) : Cfg := ⟨(numB b 0 : Nat), (numB b 1 : Nat), (numB b 2 : Nat), (numB b 3 : Nat), (numB b 4 : Nat), (numB b 5 : Nat), (numB b 6 : Nat), (numB b 7 : Nat), (numB b 8 : Nat)⟩
def Cfg.zero : Cfg := ⟨0, 0, 0, 0, 0, 0, 0, 0, 0⟩
noncomputable def decErr (b : List Nat) : Int := if b.length ≠ 36 ∨ checkOf (cfgB b) ≠ 0 then 24 else 0
noncomputable def decS (b : List Nat) : Cfg := if decErr b = 0 then cfgB b else Cfg.zero
/-- What Decode hands back. -/
noncomputable def decE (b : List Nat) : Ending := .returned (.tuple #[.agg #[.int .i64 (decS b).blocks, .int .i64 (decS b).pages, .int .i64 (decS b).sector, .int .i64 (decS b).user, .int .i64 (decS b).boot, .int .i64 (decS b).rpa, .int .i64 (decS b).group, .int .i64 (decS b).cache, .int .i64 (decS b).spare], .int .i64 (decErr b)])
theorem decE_bad {b : List Nat} (h : decErr b = 24) : decE b = .returned (.tuple #[.agg #[.int .i64 0, .int .i64 0, .int .i64 0, .int .i64 0, .int .i64 0, .int .i64 0, .int .i64 0, .int .i64 0, .int .i64 0], .int .i64 24]) := by
  unfold decE decS
  rw [h]; rfl
theorem decE_ok {b : List Nat} (h : decErr b = 0) : decE b = .returned (.tuple #[.agg #[.int .i64 (cfgB b).blocks, .int .i64 (cfgB b).pages, .int .i64 (cfgB b).sector, .int .i64 (cfgB b).user, .int .i64 (cfgB b).boot, .int .i64 (cfgB b).rpa, .int .i64 (cfgB b).group, .int .i64 (cfgB b).cache, .int .i64 (cfgB b).spare], .int .i64 0]) := by
  unfold decE decS
  rw [h]; rfl
theorem getD_lt256 (l : List Nat) (h : ∀ c ∈ l, c < 256) (i : Nat) : l.getD i 0 < 256 := by
  by_cases hi : i < l.length
  · rw [List.getD_eq_getElem?_getD, List.getElem?_eq_getElem hi]; exact h _ (List.getElem_mem hi)
  · rw [List.getD_eq_getElem?_getD, List.getElem?_eq_none (by omega)]; simp
theorem numB_lt {l : List Nat} (h : ∀ c ∈ l, c < 256) (k : Nat) : numB l k < 4294967296 := by
  have a := getD_lt256 l h (4 * k)
  have b := getD_lt256 l h (4 * k + 1)
  have c := getD_lt256 l h (4 * k + 2)
  have d := getD_lt256 l h (4 * k + 3)
  unfold numB
  omega
theorem cfgB_wf {l : List Nat} (h : ∀ c ∈ l, c < 256) : (cfgB l).wf := by
  have q := numB_lt h
  refine ⟨?_, ?_, ?_, ?_, ?_, ?_, ?_, ?_, ?_⟩
  all_goals (unfold I64; simp only [cfgB])
  · have := q 0; omega
  · have := q 1; omega
  · have := q 2; omega
  · have := q 3; omega
  · have := q 4; omega
  · have := q 5; omega
  · have := q 6; omega
  · have := q 7; omega
  · have := q 8; omega
theorem u32_zero_or (x : Nat) (h : x < 4294967296) : bits .or .u32 0 (x : Int) = (x : Int) := by
  rw [bits_join_low .u32 32 (by decide) wraps_u32 0 0 (x : Int) (by omega) (by omega) (by omega) (by omega) (by omega) (by omega)]
  omega
theorem eqCfg (x y : Cfg) (w : World) : (Op.equalIn 10000 23 (.agg #[.int .i64 x.blocks, .int .i64 x.pages, .int .i64 x.sector, .int .i64 x.user, .int .i64 x.boot, .int .i64 x.rpa, .int .i64 x.group, .int .i64 x.cache, .int .i64 x.spare]) (.agg #[.int .i64 y.blocks, .int .i64 y.pages, .int .i64 y.sector, .int .i64 y.user, .int .i64 y.boot, .int .i64 y.rpa, .int .i64 y.group, .int .i64 y.cache, .int .i64 y.spare])).run Try.prog w = .ok (x.blocks == y.blocks && x.pages == y.pages && x.sector == y.sector && x.user == y.user && x.boot == y.boot && x.rpa == y.rpa && x.group == y.group && x.cache == y.cache && x.spare == y.spare) w := by
  rw [show (10000 : Nat) = 9999 + 1 from rfl, run_equalIn_struct _ _ _ _ _ (by kernel_rfl) (by kernel_rfl)]
  go_simp
  by_cases h0 : x.blocks = y.blocks
  case neg => simp [h0]
  by_cases h1 : x.pages = y.pages
  case neg => simp [h0, h1]
  by_cases h2 : x.sector = y.sector
  case neg => simp [h0, h1, h2]
  by_cases h3 : x.user = y.user
  case neg => simp [h0, h1, h2, h3]
  by_cases h4 : x.boot = y.boot
  case neg => simp [h0, h1, h2, h3, h4]
  by_cases h5 : x.rpa = y.rpa
  case neg => simp [h0, h1, h2, h3, h4, h5]
  by_cases h6 : x.group = y.group
  case neg => simp [h0, h1, h2, h3, h4, h5, h6]
  by_cases h7 : x.cache = y.cache
  case neg => simp [h0, h1, h2, h3, h4, h5, h6, h7]
  by_cases h8 : x.spare = y.spare
  case neg => simp [h0, h1, h2, h3, h4, h5, h6, h7, h8]
  simp [h0, h1, h2, h3, h4, h5, h6, h7, h8]

/-- The shape's cells behind k numbers. -/
def numI (b : List Nat) (k j : Nat) : Int := if j < k then (numB b j : Nat) else 0
def decV (b : List Nat) (k : Nat) : List Value := [.int .i64 (numI b k 0), .int .i64 (numI b k 1), .int .i64 (numI b k 2), .int .i64 (numI b k 3), .int .i64 (numI b k 4), .int .i64 (numI b k 5), .int .i64 (numI b k 6), .int .i64 (numI b k 7), .int .i64 (numI b k 8)]
theorem decV_set (b : List Nat) (k : Nat) (hk : k < 9) : (decV b k).toArray.setIfInBounds k (.int .i64 (numB b k : Nat)) = (decV b (k + 1)).toArray := by
  match k, hk with
  | 0, _ => simp [decV, numI]
  | 1, _ => simp [decV, numI]
  | 2, _ => simp [decV, numI]
  | 3, _ => simp [decV, numI]
  | 4, _ => simp [decV, numI]
  | 5, _ => simp [decV, numI]
  | 6, _ => simp [decV, numI]
  | 7, _ => simp [decV, numI]
  | 8, _ => simp [decV, numI]
theorem decV9 (b : List Nat) : decV b 9 = [.int .i64 (numB b 0 : Nat), .int .i64 (numB b 1 : Nat), .int .i64 (numB b 2 : Nat), .int .i64 (numB b 3 : Nat), .int .i64 (numB b 4 : Nat), .int .i64 (numB b 5 : Nat), .int .i64 (numB b 6 : Nat), .int .i64 (numB b 7 : Nat), .int .i64 (numB b 8 : Nat)] := by simp [decV, numI]
theorem decV0 (b : List Nat) : decV b 0 = [.int .i64 0, .int .i64 0, .int .i64 0, .int .i64 0, .int .i64 0, .int .i64 0, .int .i64 0, .int .i64 0, .int .i64 0] := by simp [decV, numI]
/-- Between two rounds: the result's box, the shape's, the addresses, the parts. -/
structure DecI (w wr : World) (l : List Nat) (k gr : Nat) (CR : Array Value) : Prop where
  z : HasB wr w.heap.size #[.int .i64 0, .int .i64 0, .int .i64 0, .int .i64 0, .int .i64 0, .int .i64 0, .int .i64 0, .int .i64 0, .int .i64 0] 23
  c : HasB wr (w.heap.size + 1) (decV l k).toArray 23
  p : HasB wr (w.heap.size + 2) (ptrs (w.heap.size + 1)) 40
  r : HasB wr gr CR 24
  lt : w.heap.size + 2 < gr
  be : Below w.heap.size w wr
theorem DecI.next {w wr : World} {l : List Nat} {k gr : Nat} {CR : Array Value} (h : DecI w wr l k gr CR) (hk : k < 9) {v : Nat} (hv : numB l k = v) : DecI w (wr.setCell ⟨w.heap.size + 1, k, none⟩ (.int .i64 (v : Int))) l (k + 1) gr CR :=
  ⟨h.z.set_other (by simp) _, by rw [← decV_set l k hk, hv]; exact h.c.set k _, h.p.set_other (by simp) _, h.r.set_other (by have := h.lt; show gr ≠ w.heap.size + 1; omega) _, h.lt, h.be.setCell (by simp) _⟩
theorem own_block {w : World} {B n : Nat} {e : TypeId} {v : Value} {xs : List Value} (h : w.ownsRow B e 1 v (n + 1) xs) : ∃ (g cap : Nat) (C : Array Value), v = .slice (some ⟨g, 0, none⟩) (n + 1) cap ∧ B ≤ g ∧ HasB w g C e ∧ n + 1 ≤ cap ∧ ∀ (j : Nat) (x : Value), xs[j]? = some x → C[j]? = some x := by
  obtain ⟨hl, h⟩ := h
  rcases h with ⟨_, h0⟩ | ⟨g, cap, C, rfl, hB, hg, h1, h2, h3, h4⟩
  · omega
  · refine ⟨g, cap, C, rfl, hB, hg, h1, fun j x hx => ?_⟩
    rw [← h4] at hx
    rw [List.getElem?_take] at hx
    split at hx
    · simpa using hx
    · cases hx

def DecI' (w wr : World) : Prop := HasB wr w.heap.size #[.int .i64 0, .int .i64 0, .int .i64 0, .int .i64 0, .int .i64 0, .int .i64 0, .int .i64 0, .int .i64 0, .int .i64 0] 23 ∧ HasB wr (w.heap.size + 1) #[.int .i64 0, .int .i64 0, .int .i64 0, .int .i64 0, .int .i64 0, .int .i64 0, .int .i64 0, .int .i64 0, .int .i64 0] 23 ∧ HasB wr (w.heap.size + 2) (ptrs (w.heap.size + 1)) 40 ∧ Below w.heap.size w wr
theorem DecI'.below {w wr w' : World} (h : DecI' w wr) (hb : Below wr.heap.size wr w') : DecI' w w' :=
  ⟨h.1.below hb h.1.lt, h.2.1.below hb h.2.1.lt, h.2.2.1.below hb h.2.2.1.lt, h.2.2.2.trans (hb.mono h.2.2.2.size)⟩
theorem info_cfg : (Try.prog.info? 23).map (·.size) = some 9 := by kernel_rfl
def Z9 : Array Value := #[.int .i64 0, .int .i64 0, .int .i64 0, .int .i64 0, .int .i64 0, .int .i64 0, .int .i64 0, .int .i64 0, .int .i64 0]
theorem z9_info : (Try.prog.info? 23).map (·.size) = some Z9.size := by kernel_rfl
theorem z9_one : Z9.all (·.oneCell') = true := by kernel_rfl
theorem decV9_cfg (l : List Nat) : (decV l 9).toArray = #[.int .i64 (cfgB l).blocks, .int .i64 (cfgB l).pages, .int .i64 (cfgB l).sector, .int .i64 (cfgB l).user, .int .i64 (cfgB l).boot, .int .i64 (cfgB l).rpa, .int .i64 (cfgB l).group, .int .i64 (cfgB l).cache, .int .i64 (cfgB l).spare] := by rw [decV9]; rfl
theorem decV_one (l : List Nat) (k : Nat) : (decV l k).toArray.all (·.oneCell') = true := by simp [decV, Value.oneCell']
theorem decV_size (l : List Nat) (k : Nat) : (decV l k).toArray.size = 9 := rfl

set_option maxRecDepth 100000 in
set_option maxHeartbeats 8000000 in
theorem gdec_any (a : Option Addr) (len cap : Nat) (l : List Nat) (w : World) (hi : Bytes w a len l) (hl : len ≤ 1000000) (hlc : len ≤ cap) (hcm : cap ≤ maxLen) :
    Calls Try.prog 6 #[.slice a len cap] w fun x w' => x = decE l ∧ Below w.heap.size w w' := by
  have hll := hi.1
  obtain ⟨POST, hPOST⟩ : ∃ POST : Ending → World → Prop, POST = fun x w' => x = decE l ∧ Below w.heap.size w w' := ⟨_, rfl⟩
  rw [← hPOST]
  have HPost := Lib.hid hPOST
  clear hPOST
  have HI1 : Hid (HasB ((w.alloc (.cells #[.int .i64 0, .int .i64 0, .int .i64 0, .int .i64 0, .int .i64 0, .int .i64 0, .int .i64 0, .int .i64 0, .int .i64 0] 23)).alloc (.cells #[.int .i64 0, .int .i64 0, .int .i64 0, .int .i64 0, .int .i64 0, .int .i64 0, .int .i64 0, .int .i64 0, .int .i64 0] 23)) w.heap.size #[.int .i64 0, .int .i64 0, .int .i64 0, .int .i64 0, .int .i64 0, .int .i64 0, .int .i64 0, .int .i64 0, .int .i64 0] 23 ∧ HasB ((w.alloc (.cells #[.int .i64 0, .int .i64 0, .int .i64 0, .int .i64 0, .int .i64 0, .int .i64 0, .int .i64 0, .int .i64 0, .int .i64 0] 23)).alloc (.cells #[.int .i64 0, .int .i64 0, .int .i64 0, .int .i64 0, .int .i64 0, .int .i64 0, .int .i64 0, .int .i64 0, .int .i64 0] 23)) (w.heap.size + 1) #[.int .i64 0, .int .i64 0, .int .i64 0, .int .i64 0, .int .i64 0, .int .i64 0, .int .i64 0, .int .i64 0, .int .i64 0] 23 ∧ Below w.heap.size w ((w.alloc (.cells #[.int .i64 0, .int .i64 0, .int .i64 0, .int .i64 0, .int .i64 0, .int .i64 0, .int .i64 0, .int .i64 0, .int .i64 0] 23)).alloc (.cells #[.int .i64 0, .int .i64 0, .int .i64 0, .int .i64 0, .int .i64 0, .int .i64 0, .int .i64 0, .int .i64 0, .int .i64 0] 23)) ∧ ((w.alloc (.cells #[.int .i64 0, .int .i64 0, .int .i64 0, .int .i64 0, .int .i64 0, .int .i64 0, .int .i64 0, .int .i64 0, .int .i64 0] 23)).alloc (.cells #[.int .i64 0, .int .i64 0, .int .i64 0, .int .i64 0, .int .i64 0, .int .i64 0, .int .i64 0, .int .i64 0, .int .i64 0] 23)).heap.size = w.heap.size + 2) := Lib.hid ⟨(HasB.new w _ _).alloc _, HasB.new' (by simp) _ _, ((Below.refl _ _).alloc (Nat.le_refl _) _).alloc (by simp) _, by simp⟩
  go_enter Try.func6, Try.ntmps6
  go_wp2_with fail
  generalize ((w.alloc (.cells #[.int .i64 0, .int .i64 0, .int .i64 0, .int .i64 0, .int .i64 0, .int .i64 0, .int .i64 0, .int .i64 0, .int .i64 0] 23)).alloc (.cells #[.int .i64 0, .int .i64 0, .int .i64 0, .int .i64 0, .int .i64 0, .int .i64 0, .int .i64 0, .int .i64 0, .int .i64 0] 23)) = w1 at HI1 ⊢
  have hn := numbers_any (w.heap.size + 1) w1
  rw [HI1.out.2.2.2] at hn
  refine hn.mono ?_
  rintro e w2 ⟨rfl, hp, hb⟩
  have HI2 : Hid (DecI' w w2) := Lib.hid ⟨HI1.out.1.below (hb.mono (by rw [HI1.out.2.2.2]; exact Nat.le_refl _)) HI1.out.1.lt, HI1.out.2.1.below (hb.mono (by rw [HI1.out.2.2.2]; exact Nat.le_refl _)) HI1.out.2.1.lt, hp, HI1.out.2.2.1.trans (hb.mono (by omega))⟩
  clear hn hp hb HI1
  by_cases h36 : len = 36
  · subst h36
    obtain ⟨bk, off, rfl, hbk, hcell⟩ := hi.2.2 (by omega)
    have HCell : Hid (∀ i : Nat, i < 36 → w.cell? ⟨bk, off + i, none⟩ = some (.int .u8 (l.getD i 0 : Nat))) := Lib.hid hcell
    have H8 : Hid (∀ c ∈ l, c < 256) := Lib.hid hi.2.1
    have HLen : Hid (l.length = 36) := Lib.hid hll
    clear hi hcell hll
    go_wp2_with fail
    refine (collect_chunk bk off 36 cap 4 9 (by omega) (by omega) (fun k hk => by omega) (by omega) (by omega) hlc hcm (by omega) w2).mono ?_
    rintro e w3 ⟨hb3, fv, rfl, hcol⟩
    have HI3 : Hid (DecI' w w3) := Lib.hid (HI2.out.below hb3)
    have HCol := Lib.hid hcol
    clear hb3 HI2 hcol
    go_wp2_with fail
    refine HCol.out.mono ?_
    rintro e w4 ⟨v, rfl, hown, hb4⟩
    obtain ⟨gr, cap', CR, rfl, hgr, hR, hcap, hx⟩ := own_block hown
    have HI4 : Hid (DecI w w4 l 0 gr CR) := Lib.hid (by
      have h := HI3.out.below hb4
      refine ⟨h.1, by rw [decV0]; exact h.2.1, h.2.2.1, hR, ?_, h.2.2.2⟩
      have := HI3.out.2.2.1.lt
      omega)
    have HPart : Hid (∀ j, j < 9 → CR[j]? = some (.slice (some ⟨bk, off + 4 * j, none⟩) 4 4)) := Lib.hid (fun j hj => hx j _ (by
      rw [List.getElem?_map, List.getElem?_range hj]
      show some (chunkV bk off 36 4 j) = _
      unfold chunkV
      rw [show min 4 (36 - 4 * j) = 4 by omega]))
    clear hown hb4 hgr hR hcap hx HI3 HCol
    go_wp2_with fail
    go_loopw [23] (fun i wr => ∃ k : Nat, k ≤ 9 ∧ i = .int .i64 (k : Int) ∧ Hid (DecI w wr l k gr CR)) (fun i _ => 9 - (intOf i).toNat)
    case atStart => exact ⟨0, by omega, rfl, HI4⟩
    case round =>
      clear HI4
      obtain ⟨k, hk, rfl, HR⟩ := hrel
      obtain ⟨wo, rfl⟩ : ∃ wo : World, wo = wr := ⟨_, rfl⟩
      by_cases hlt : k < 9
      · have t1 : (k : Int) < 9 := by omega
        have t2 : (0 : Int) ≤ (k : Int) ∧ (k : Int) < 9 := by omega
        obtain ⟨q, hq⟩ : ∃ q, q = 4 * k := ⟨_, rfl⟩
        have hb := HR.out.be
        have r0 : wo.cell? ⟨gr, k, none⟩ = some (.slice (some ⟨bk, off + q, none⟩) 4 4) := (HR.out.r.at k).trans (by rw [hq]; exact HPart.out k hlt)
        have p0 : wo.cell? ⟨w.heap.size + 2, k, none⟩ = some (.pointer (some ⟨w.heap.size + 1, k, none⟩)) := (HR.out.p.at k).trans (ptrs_at _ _ hlt)
        have d0 : wo.cell? ⟨bk, off + q, none⟩ = some (.int .u8 (l.getD q 0 : Nat)) := (hb.cell (p := ⟨bk, _, none⟩) hbk).trans (HCell.out q (by omega))
        have d1 : wo.cell? ⟨bk, off + q + 1, none⟩ = some (.int .u8 (l.getD (q + 1) 0 : Nat)) := (hb.cell (p := ⟨bk, _, none⟩) hbk).trans (HCell.out (q + 1) (by omega))
        have d2 : wo.cell? ⟨bk, off + q + 2, none⟩ = some (.int .u8 (l.getD (q + 2) 0 : Nat)) := (hb.cell (p := ⟨bk, _, none⟩) hbk).trans (HCell.out (q + 2) (by omega))
        have d3 : wo.cell? ⟨bk, off + q + 3, none⟩ = some (.int .u8 (l.getD (q + 3) 0 : Nat)) := (hb.cell (p := ⟨bk, _, none⟩) hbk).trans (HCell.out (q + 3) (by omega))
        have l0 := getD_lt256 l H8.out q
        have l1 := getD_lt256 l H8.out (q + 1)
        have l2 := getD_lt256 l H8.out (q + 2)
        have l3 := getD_lt256 l H8.out (q + 3)
        have HNum : Hid (numB l k = l.getD q 0 + 256 * l.getD (q + 1) 0 + 65536 * l.getD (q + 2) 0 + 16777216 * l.getD (q + 3) 0) := Lib.hid (by rw [hq]; rfl)
        generalize l.getD q 0 = z0 at d0 l0 HNum
        generalize l.getD (q + 1) 0 = z1 at d1 l1 HNum
        generalize l.getD (q + 2) 0 = z2 at d2 l2 HNum
        generalize l.getD (q + 3) 0 = z3 at d3 l3 HNum
        have o0 : bits .or .u32 0 (z0 : Int) = (z0 : Int) := u32_zero_or z0 (by omega)
        obtain ⟨s1, hs1⟩ : ∃ s1, s1 = z0 + z1 * 2 ^ 8 := ⟨_, rfl⟩
        obtain ⟨s2, hs2⟩ : ∃ s2, s2 = s1 + z2 * 2 ^ 16 := ⟨_, rfl⟩
        obtain ⟨s3, hs3⟩ : ∃ s3, s3 = s2 + z3 * 2 ^ 24 := ⟨_, rfl⟩
        have o1 : bits .or .u32 (z0 : Int) ((z1 : Int) * 256) = (s1 : Int) := by rw [u32_or8 _ _ (by omega) (by omega) (by omega) (by omega) (by omega)]; omega
        have o2 : bits .or .u32 (s1 : Int) ((z2 : Int) * 65536) = (s2 : Int) := by rw [u32_or16 _ _ (by omega) (by omega) (by omega) (by omega) (by omega)]; omega
        have o3 : bits .or .u32 (s2 : Int) ((z3 : Int) * 16777216) = (s3 : Int) := by rw [u32_or24 _ _ (by omega) (by omega) (by omega) (by omega) (by omega)]; omega
        have s3lt : s3 < 4294967296 := by omega
        have hNum3 : numB l k = s3 := by rw [HNum.out]; omega
        have hfz := HR.out.c.free k
        obtain ⟨v0, hv0⟩ : ∃ v0, wo.cell? ⟨w.heap.size + 1, k, none⟩ = some v0 := by rw [HR.out.c.at k]; exact ⟨_, Array.getElem?_eq_getElem (by rw [decV_size]; exact hlt)⟩
        have HNx := Lib.hid (HR.out.next hlt hNum3)
        clear HNum hs1 hs2 hs3 hb hq hNum3 HR
        go_wp2_with fail
        refine wp_loop_rounds 5 ?_
        rw [rounds_succ]
        go_wp2_with fail
        rw [rounds_succ]
        go_wp2_with fail
        rw [rounds_succ]
        go_wp2_with fail
        rw [rounds_succ]
        go_wp2_with fail
        rw [rounds_succ]
        go_wp2_with fail
        go_roundw
        case rel => exact ⟨k + 1, by omega, by go_num, HNx⟩
        case measure => simp [intOf]; omega
      · obtain rfl : k = 9 := by omega
        obtain ⟨CC, hCC⟩ : ∃ CC, CC = (decV l 9).toArray := ⟨_, rfl⟩
        have HIc : Hid ((Try.prog.info? 23).map (·.size) = some CC.size) := Lib.hid (by rw [hCC]; exact info_cfg)
        have HOc : Hid (Z9.size = CC.size) := Lib.hid (by rw [hCC]; rfl)
        have HEc : Hid (CC.all (·.oneCell') = true) := Lib.hid (by rw [hCC]; exact decV_one l 9)
        obtain ⟨qb, hqb⟩ : ∃ qb : Bool, qb = ((cfgB l).blocks == Cfg.zero.blocks && (cfgB l).pages == Cfg.zero.pages && (cfgB l).sector == Cfg.zero.sector && (cfgB l).user == Cfg.zero.user && (cfgB l).boot == Cfg.zero.boot && (cfgB l).rpa == Cfg.zero.rpa && (cfgB l).group == Cfg.zero.group && (cfgB l).cache == Cfg.zero.cache && (cfgB l).spare == Cfg.zero.spare) := ⟨_, rfl⟩
        have heq : ∀ w, (Op.equalIn 10000 23 (.agg CC) (.agg #[.int .i64 0, .int .i64 0, .int .i64 0, .int .i64 0, .int .i64 0, .int .i64 0, .int .i64 0, .int .i64 0, .int .i64 0])).run Try.prog w = .ok qb w := by
          intro w
          have h := eqCfg (cfgB l) Cfg.zero w
          rw [← hqb] at h
          rw [hCC, decV9_cfg]
          exact h
        have HCk : Hid (∀ w, Calls Try.prog 9 #[.agg CC] w fun x w' => x = .returned (.int .i64 (checkOf (cfgB l))) ∧ Below w.heap.size w w') := Lib.hid (by
          intro w
          rw [hCC, decV9_cfg]
          exact check_any (cfgB l) w (cfgB_wf H8.out))
        have HNo : Hid (checkOf (cfgB l) ≠ 0 → decE l = .returned (.tuple #[.agg Z9, .int .i64 24])) := Lib.hid (fun h => decE_bad (by unfold decErr; rw [if_pos (.inr h)]))
        have HYes : Hid (checkOf (cfgB l) = 0 → decE l = .returned (.tuple #[.agg CC, .int .i64 0])) := Lib.hid (fun h => by
          rw [decE_ok (by unfold decErr; rw [if_neg (by have := HLen.out; omega)]), hCC, decV9_cfg])
        have HQ0 : Hid (qb = true → checkOf (cfgB l) ≠ 0) := Lib.hid (fun h hz => by
          rw [hqb] at h
          simp only [Bool.and_eq_true, beq_iff_eq] at h
          have h1 := (check_zero hz).1.1
          have h2 := h.1.1.1.1.1.1.1.1
          rw [h2] at h1
          simp [Cfg.zero] at h1)
        have HR1 : Hid (wo.heap[w.heap.size + 1]? = some (.cells CC 23 (0, 0)) ∧ wo.heap[w.heap.size]? = some (.cells Z9 23 (0, 0)) ∧ Below w.heap.size w wo) := Lib.hid ⟨by rw [hCC]; exact HR.out.c, HR.out.z, HR.out.be⟩
        have HQc : Hid (wo.heap[w.heap.size + 1]? = some (.cells CC 23 (0, 0))) := Lib.hid HR1.out.1
        have HQz : Hid (wo.heap[w.heap.size]? = some (.cells Z9 23 (0, 0))) := Lib.hid HR1.out.2.1
        clear hCC hqb HR
        cases qb with
        | true =>
          have HE := Lib.hid (HNo.out (HQ0.out rfl))
          have HSet : Hid ((wo.setRow w.heap.size Z9).heap[w.heap.size]? = some (.cells Z9 23 (0, 0)) ∧ Below w.heap.size w (wo.setRow w.heap.size Z9)) := Lib.hid ⟨setRow_heap _ _ _ _ 23 (0, 0) HQz.out, below_setRow HR1.out.2.2 (Nat.le_refl _) _⟩
          go_wp2_with (first | (with_reducible refine wpList_load_row rfl 23 (.tmp 4) rfl (w.heap.size + 1) rfl 23 CC (0, 0) _ HQc.out Try.underlying23 rfl HIc.out ?_) | (with_reducible refine stop_store 2 _ _ rfl ?_))
          refine Stop.go ?_
          rw [show (#[.int .i64 0, .int .i64 0, .int .i64 0, .int .i64 0, .int .i64 0, .int .i64 0, .int .i64 0, .int .i64 0, .int .i64 0] : Array Value) = Z9 from rfl]
          go_wp2_with (with_reducible refine wpList_store_row rfl 23 (.tmp 2) (.tmp 59) rfl w.heap.size Z9 rfl rfl 23 _ HQz.out z9_info rfl z9_one ?_)
          rw [HPost.out]
          exact bodyPost_ret (results_row_tmp (p := 2) (u := 3) (by kernel_rfl) _ _ w.heap.size 23 _ (0, 0) _ _ rfl HSet.out.1 rfl Try.underlying23 z9_info rfl) rfl ⟨HE.out.symm, HSet.out.2⟩
        | false =>
          go_wp2_with (first | (with_reducible refine wpList_load_row rfl 23 (.tmp 4) rfl (w.heap.size + 1) rfl 23 CC (0, 0) _ HQc.out Try.underlying23 rfl HIc.out ?_) | (with_reducible refine wpList_load_row_g (by kernel_rfl) 23 (.tmp 4) rfl (w.heap.size + 1) rfl 23 CC (0, 0) _ HQc.out Try.underlying23 rfl HIc.out ?_))
          refine (HCk.out _).mono ?_
          rintro e w5 ⟨rfl, hb5⟩
          have HR2 : Hid (w5.heap[w.heap.size + 1]? = some (.cells CC 23 (0, 0)) ∧ w5.heap[w.heap.size]? = some (.cells Z9 23 (0, 0)) ∧ Below w.heap.size w w5) := Lib.hid ⟨HasB.below HR1.out.1 hb5 (HasB.lt HR1.out.1), HasB.below HR1.out.2.1 hb5 (HasB.lt HR1.out.2.1), HR1.out.2.2.trans (hb5.mono HR1.out.2.2.size)⟩
          have HQd : Hid (w5.heap[w.heap.size + 1]? = some (.cells CC 23 (0, 0))) := Lib.hid HR2.out.1
          have HQy : Hid (w5.heap[w.heap.size]? = some (.cells Z9 23 (0, 0))) := Lib.hid HR2.out.2.1
          clear hb5 HR1 HQc HQz heq
          rcases checkOf_two (cfgB l) with hc | hc
          · have HE := Lib.hid (HYes.out hc)
            have HSet : Hid ((w5.setRow w.heap.size CC).heap[w.heap.size]? = some (.cells CC 23 (0, 0)) ∧ Below w.heap.size w (w5.setRow w.heap.size CC)) := Lib.hid ⟨setRow_heap _ _ _ _ 23 (0, 0) HQy.out, below_setRow HR2.out.2.2 (Nat.le_refl _) _⟩
            rw [hc]
            clear hc
            go_wp2_with (first | (with_reducible refine wpList_load_row rfl 23 (.tmp 4) rfl (w.heap.size + 1) rfl 23 CC (0, 0) _ HQd.out Try.underlying23 rfl HIc.out ?_) | (with_reducible refine wpList_store_row rfl 23 (.tmp 2) (.tmp 60) rfl w.heap.size CC rfl rfl 23 _ HQy.out HIc.out HOc.out HEc.out ?_))
            rw [HPost.out]
            exact bodyPost_ret (results_row_tmp (p := 2) (u := 3) (by kernel_rfl) _ _ w.heap.size 23 _ (0, 0) _ _ rfl HSet.out.1 rfl Try.underlying23 HIc.out rfl) rfl ⟨HE.out.symm, HSet.out.2⟩
          · have HE := Lib.hid (HNo.out (by rw [hc]; decide))
            have HSet : Hid ((w5.setRow w.heap.size Z9).heap[w.heap.size]? = some (.cells Z9 23 (0, 0)) ∧ Below w.heap.size w (w5.setRow w.heap.size Z9)) := Lib.hid ⟨setRow_heap _ _ _ _ 23 (0, 0) HQy.out, below_setRow HR2.out.2.2 (Nat.le_refl _) _⟩
            rw [hc]
            clear hc
            go_wp2_with (with_reducible refine stop_store 2 _ _ rfl ?_)
            refine Stop.go ?_
            rw [show (#[.int .i64 0, .int .i64 0, .int .i64 0, .int .i64 0, .int .i64 0, .int .i64 0, .int .i64 0, .int .i64 0, .int .i64 0] : Array Value) = Z9 from rfl]
            go_wp2_with (with_reducible refine wpList_store_row rfl 23 (.tmp 2) (.tmp 59) rfl w.heap.size Z9 rfl rfl 23 _ HQy.out z9_info rfl z9_one ?_)
            rw [HPost.out]
            exact bodyPost_ret (results_row_tmp (p := 2) (u := 3) (by kernel_rfl) _ _ w.heap.size 23 _ (0, 0) _ _ rfl HSet.out.1 rfl Try.underlying23 z9_info rfl) rfl ⟨HE.out.symm, HSet.out.2⟩
  · have hE := decE_bad (b := l) (by unfold decErr; rw [if_pos (.inl (by omega))])
    have t36 : ¬ ((len : Int) = 36) := by omega
    have HE := Lib.hid hE
    have HQ : Hid (w2.heap[w.heap.size]? = some (.cells Z9 23 (0, 0))) := Lib.hid HI2.out.1
    have HSet : Hid ((w2.setRow w.heap.size Z9).heap[w.heap.size]? = some (.cells Z9 23 (0, 0)) ∧ Below w.heap.size w (w2.setRow w.heap.size Z9)) := Lib.hid ⟨setRow_heap _ _ _ _ 23 (0, 0) HQ.out, below_setRow HI2.out.2.2.2 (Nat.le_refl _) _⟩
    clear hE hi HI2
    go_wp2_with (with_reducible refine stop_store 2 _ _ rfl ?_)
    refine Stop.go ?_
    rw [show (#[.int .i64 0, .int .i64 0, .int .i64 0, .int .i64 0, .int .i64 0, .int .i64 0, .int .i64 0, .int .i64 0, .int .i64 0] : Array Value) = Z9 from rfl]
    go_wp2_with (with_reducible refine wpList_store_row rfl 23 (.tmp 2) (.tmp 18) rfl w.heap.size Z9 rfl rfl 23 _ HQ.out z9_info rfl z9_one ?_)
    rw [HPost.out]
    exact bodyPost_ret (results_row_tmp (p := 2) (u := 3) (by kernel_rfl) _ _ w.heap.size 23 _ (0, 0) _ _ rfl HSet.out.1 rfl Try.underlying23 z9_info rfl) rfl ⟨HE.out.symm, HSet.out.2⟩
end Go.Proofs.Yteclcciionjjcaa
