/- rpa: Decode: the walk. rpa: RpaFrames: the walk. -/
import Derived.Test.YtkdjimcpdbpemaaRpaFr1
import Derived.Test.YtkdjimcpdbpemaaRpaO
namespace Go.Proofs.Ytkdjimcpdbpemaa
open Go Go.RowKit
set_option linter.unusedVariables false

theorem RF.data_splice {f : RF} (h : f.Ok) (t : List Nat) (h2 : t.length = 64) : splice f.cells 32 (u8s t) = ({ f with data := t } : RF).cells := by
  unfold RF.cells
  rw [splice_mid (u8s f.tag) (u8s f.data) _ (u8s t) (by rw [u8s_len, h.tl]) (by rw [u8s_len, u8s_len, h2, h.dl])]
  rfl
theorem RF.nonce_splice {f : RF} (h : f.Ok) (t : List Nat) (h2 : t.length = 16) : splice f.cells 96 (u8s t) = ({ f with nonce := t } : RF).cells := by
  have e : ∀ (x : List Nat), ({ f with nonce := x } : RF).cells = (u8s f.tag ++ u8s f.data) ++ (u8s x ++ f.tail) := fun x => by simp [RF.cells, RF.tail, List.append_assoc]
  have e0 := e f.nonce
  rw [show ({ f with nonce := f.nonce } : RF) = f from rfl] at e0
  rw [e t, e0, splice_mid _ (u8s f.nonce) _ (u8s t) (by simp [u8s_len, h.tl, h.dl]) (by rw [u8s_len, u8s_len, h2, h.nl])]
theorem DcS.next {T : TypeId} {w0 w w' : World} {g2 g5 : Nat} {f f' : RF} (h : DcS T w0 g2 g5 f w) (hb : Below g5 w.drew w') (hg : w'.heap[g5]? = some (.cells f'.cells.toArray T (0, 0))) (hok : f'.Ok) : DcS T w0 g2 g5 f' w' :=
  ⟨(hb.block g2 h.l1).trans h.out, hg, h.be.trans ((Below.refl _ _).drew.trans (hb.mono (by have := h.l0; have := h.l1; omega))), h.l0, h.l1, hok⟩
theorem DcS.other {T : TypeId} {w0 w : World} {g2 g5 : Nat} {f : RF} (h : DcS T w0 g2 g5 f w) (o : Obj) : DcS T w0 g2 g5 f (w.alloc o) := h.below ((Below.refl _ _).alloc (Nat.le_refl _) _)
/-- The bytes that are copied. -/
theorem src_at {w wr : World} {bk off len o n : Nat} {l : List Nat} (hb : Below w.heap.size w wr) (hbk : bk < w.heap.size) (hc : ∀ i, i < len → w.cell? ⟨bk, off + i, none⟩ = some (.int .u8 (l.getD i 0 : Nat))) (hl : l.length = len) (hn : o + n ≤ len) :
    ∀ (j : Nat) (v : Value), (u8s ((l.drop o).take n))[j]? = some v → wr.drew.cell? ((⟨bk, off + o, none⟩ : Addr).add j) = some v := by
  intro j v hj
  have hj2 : j < n := by have := (List.getElem?_eq_some_iff.1 hj).1; rw [u8s_len] at this; simp at this; omega
  rw [Go.WideShapes.add_plain]
  have h1 := (hb.cell (p := ⟨bk, off + (o + j), none⟩) hbk).trans (hc (o + j) (by omega))
  rw [show off + o + j = off + (o + j) by omega]
  refine Eq.trans (show wr.drew.cell? _ = wr.cell? _ from rfl) (h1.trans ?_)
  rw [← hj]
  simp [u8s, List.getD, List.getElem?_take, hj2, List.getElem?_drop, show o + j < l.length by omega]
theorem or_be (x y : Nat) (hx : x < 256) (hy : y < 256) : bits BinOp.or IntKind.i64 ((x : Int) * 256) (y : Int) = ((x * 256 + y : Nat) : Int) := by
  rw [show ((x : Int) * 256) = ((x * 256 : Nat) : Int) by omega]
  rw [(bits_nat .i64 63 (by decide) (fun n h0 h1 => by rw [IntKind.wrap_i64]; omega) (x * 256) y (by omega) (by omega)).2]
  rw [show x * 256 = 2 ^ 8 * x by omega, Nat.two_pow_add_eq_or_of_lt (by omega)]
def ptrL (g k : Nat) : Array Value := #[.pointer (some ⟨g, 113, none⟩), .pointer (some ⟨g, 114, none⟩), .pointer (some ⟨g, 115, none⟩), .pointer (some ⟨g, 116, none⟩)]

set_option maxRecDepth 100000 in
set_option maxHeartbeats 8000000 in
theorem rdec_any (a : Option Addr) (len cap : Nat) (l : List Nat) (w : World) (hi : Bytes w a len l) (hl : len ≤ 100000) (hcap : len ≤ cap) (hcm : cap ≤ 9223372036854775807) :
    Calls Try.prog 16 #[.slice a len cap] w fun e w' => e = .returned (.tuple #[(decF l).val, .int .i64 (decE l)]) ∧ Below w.heap.size w w' := by
  obtain ⟨POST, hPOST⟩ : ∃ Q : Ending → World → Prop, Q = fun e w' => e = .returned (.tuple #[(decF l).val, .int .i64 (decE l)]) ∧ Below w.heap.size w w' := ⟨_, rfl⟩
  rw [← hPOST]
  have hlen := hi.1
  have hb8 := hi.2.1
  have HIz : Hid ((Try.prog.info? 37).map (·.size) = some zF.size) := Lib.hid (by kernel_rfl)
  have HEz : Hid (zF.all (·.oneCell') = true) := Lib.hid (by kernel_rfl)
  by_cases h128 : len < 128
  · have hd := decF_short (b := l) (by omega)
    have hP : POST = fun e w' => e = .returned (.tuple #[.agg zF, .int .i64 23]) ∧ Below w.heap.size w w' := by rw [hPOST, hd.1, hd.2]; rfl
    have HP := Lib.hid hP
    have HN : Hid (HasB (w.alloc (.cells zF 37)) w.heap.size zF 37 ∧ Below w.heap.size w (w.alloc (.cells zF 37))) := Lib.hid ⟨HasB.new _ _ _, (Below.refl _ _).alloc (Nat.le_refl _) _⟩
    have HQz : Hid ((w.alloc (.cells zF 37)).heap[w.heap.size]? = some (.cells zF 37 (0, 0))) := Lib.hid HN.out.1
    have t1 : (len : Int) < 128 := by omega
    clear hP hd hPOST hi hl hb8
    go_enter Try.func16, Try.ntmps16
    go_wp2_with (with_reducible refine wpList_store_row rfl 37 (.tmp 2) (.tmp 14) rfl w.heap.size zF rfl rfl 37 _ HQz.out HIz.out rfl HEz.out ?_; rw [World.setRow_alloc_new])
    rw [HP.out]
    exact bodyPost_ret (results_row_tmp (p := 2) (u := 3) (by kernel_rfl) _ _ w.heap.size 37 zF (0, 0) _ _ rfl HN.out.1 rfl Try.underlying37 HIz.out rfl) rfl ⟨rfl, HN.out.2⟩
  have h128' : 128 ≤ l.length := by omega
  obtain ⟨bk, off, rfl, hbk, hcell⟩ := hi.2.2 (by omega)
  have HCell := Lib.hid hcell
  have HLt := Lib.hid hb8
  have HPOST := Lib.hid hPOST
  have HLen := Lib.hid hlen
  have H128 := Lib.hid h128'
  have t1 : ¬ (len : Int) < 128 := by omega
  have HN : Hid (HasB (w.alloc (.cells zF 37)) w.heap.size zF 37 ∧ Below w.heap.size w (w.alloc (.cells zF 37))) := Lib.hid ⟨HasB.new _ _ _, (Below.refl _ _).alloc (Nat.le_refl _) _⟩
  clear hPOST hi hb8 hcell hlen h128'
  go_enter Try.func16, Try.ntmps16
  go_wp2_with fail
  generalize w.alloc (.cells zF 37) = w1 at HN ⊢
  obtain ⟨g2, hg2⟩ : ∃ g, g = w.heap.size := ⟨_, rfl⟩
  have HG : Hid (w.heap.size ≤ g2) := Lib.hid (by omega)
  have HN1 : Hid (HasB w1 g2 zF 37 ∧ Below w.heap.size w w1) := Lib.hid (by rw [hg2]; exact HN.out)
  rw [← hg2]
  clear hg2 HN
  have HQz : Hid (w1.heap[g2]? = some (.cells zF 37 (0, 0))) := Lib.hid HN1.out.1
  go_loopw [17] (fun i wr => ∃ k : Nat, k ≤ len ∧ i = .int .i64 (k : Int) ∧ wr = w1 ∧ Hid (GoodTo l k)) (fun i _ => len - (intOf i).toNat)
  case atStart => exact ⟨0, by omega, rfl, rfl, Lib.hid (fun j hj => by omega)⟩
  case round =>
    obtain ⟨k, hk, rfl, rfl, HGo⟩ := hrel
    by_cases hlt : k < len
    · have t2 : (k : Int) < (len : Int) := by omega
      have d0 : wr.cell? ⟨bk, off + k, none⟩ = some (.int .u8 (l.getD k 0 : Nat)) := (HN1.out.2.cell (p := ⟨bk, _, none⟩) hbk).trans (HCell.out k hlt)
      have l0 := getD_lt HLt.out k
      obtain ⟨x, hx⟩ : ∃ x, x = l.getD k 0 := ⟨_, rfl⟩
      rw [← hx] at d0 l0
      have HX := Lib.hid hx
      clear hx
      by_cases k4 : k < 4
      · have t3 : (k : Int) < 4 := by omega
        by_cases x0 : x = 0
        · have q0 : ((x : Int) != 0) = false := by simp; omega
          have HGn : Hid (GoodTo l (k + 1)) := Lib.hid (HGo.out.next (by unfold badB; rw [← HX.out]; simp [x0]))
          go_wp2_with fail
          go_roundw
          case rel => exact ⟨k + 1, by omega, by go_num, by first | rfl | trivial, HGn⟩
          case measure => simp [intOf]; omega
        · have q0 : ((x : Int) != 0) = true := by simp; omega
          have hbad : badIn l = true := bad_at (k := k) (by rw [HLen.out]; exact hlt) (by unfold badB; rw [← HX.out]; simp; omega)
          have hd := decF_bad H128.out hbad
          have HP : Hid (POST = fun e w' => e = .returned (.tuple #[.agg zF, .int .i64 24]) ∧ Below w.heap.size w w') := Lib.hid (by rw [HPOST.out, hd.1, hd.2]; rfl)
          have HNs : Hid ((wr.setRow g2 zF).heap[g2]? = some (.cells zF 37 (0, 0)) ∧ Below w.heap.size w (wr.setRow g2 zF)) := Lib.hid ⟨setRow_heap _ _ _ zF 37 (0, 0) HN1.out.1, below_setRow HN1.out.2 HG.out zF⟩
          clear hd hbad
          clear HPOST
          go_wp2_with (with_reducible refine wpList_store_row rfl 37 (.tmp 2) (.tmp 32) rfl g2 zF rfl rfl 37 _ HQz.out HIz.out rfl HEz.out ?_)
          rw [HP.out]
          exact bodyPost_ret (results_row_tmp (p := 2) (u := 3) (by kernel_rfl) _ _ g2 37 zF (0, 0) _ _ rfl HNs.out.1 rfl Try.underlying37 HIz.out rfl) rfl ⟨rfl, HNs.out.2⟩
      · by_cases k5 : 128 ≤ k
        · have t3 : ¬ (k : Int) < 4 := by omega
          have t4 : (128 : Int) ≤ (k : Int) := by omega
          by_cases x0 : x = 0
          · have q0 : ((x : Int) != 0) = false := by simp; omega
            have HGn : Hid (GoodTo l (k + 1)) := Lib.hid (HGo.out.next (by unfold badB; rw [← HX.out]; simp [x0]))
            go_wp2_with fail
            go_roundw
            case rel => exact ⟨k + 1, by omega, by go_num, by first | rfl | trivial, HGn⟩
            case measure => simp [intOf]; omega
          · have q0 : ((x : Int) != 0) = true := by simp; omega
            have hbad : badIn l = true := bad_at (k := k) (by rw [HLen.out]; exact hlt) (by unfold badB; rw [← HX.out]; simp; omega)
            have hd := decF_bad H128.out hbad
            have HP : Hid (POST = fun e w' => e = .returned (.tuple #[.agg zF, .int .i64 24]) ∧ Below w.heap.size w w') := Lib.hid (by rw [HPOST.out, hd.1, hd.2]; rfl)
            have HNs : Hid ((wr.setRow g2 zF).heap[g2]? = some (.cells zF 37 (0, 0)) ∧ Below w.heap.size w (wr.setRow g2 zF)) := Lib.hid ⟨setRow_heap _ _ _ zF 37 (0, 0) HN1.out.1, below_setRow HN1.out.2 HG.out zF⟩
            clear hd hbad
            clear HPOST
            go_wp2_with (with_reducible refine wpList_store_row rfl 37 (.tmp 2) (.tmp 32) rfl g2 zF rfl rfl 37 _ HQz.out HIz.out rfl HEz.out ?_)
            rw [HP.out]
            exact bodyPost_ret (results_row_tmp (p := 2) (u := 3) (by kernel_rfl) _ _ g2 37 zF (0, 0) _ _ rfl HNs.out.1 rfl Try.underlying37 HIz.out rfl) rfl ⟨rfl, HNs.out.2⟩
        · have t3 : ¬ (k : Int) < 4 := by omega
          have t4 : ¬ (128 : Int) ≤ (k : Int) := by omega
          have HGn : Hid (GoodTo l (k + 1)) := Lib.hid (HGo.out.next (by unfold badB; simp; omega))
          go_wp2_with fail
          go_roundw
          case rel => exact ⟨k + 1, by omega, by go_num, by first | rfl | trivial, HGn⟩
          case measure => simp [intOf]; omega
    · obtain rfl : k = len := by omega
      have t2 : ¬ (k : Int) < (k : Int) := by omega
      have hgood : badIn l = false := GoodTo.all (by rw [HLen.out]; exact HGo.out)
      have hd := decF_good H128.out hgood
      have hok := fTyp_ok H128.out HLt.out
      obtain ⟨R, hR⟩ : ∃ R, R = (fTyp l).cells.toArray := ⟨_, rfl⟩
      have HR := Lib.hid hR
      have HIr : Hid ((Try.prog.info? 37).map (·.size) = some R.size) := Lib.hid (by rw [hR, List.size_toArray, RF.cells_len hok]; kernel_rfl)
      have HOr : Hid (zF.size = R.size) := Lib.hid (by rw [hR]; exact old_f hok)
      have HEr : Hid (R.all (·.oneCell') = true) := Lib.hid (by rw [hR]; exact RF.one _)
      have HP2 : Hid (POST = fun e w' => e = .returned (.tuple #[.agg R, .int .i64 0]) ∧ Below w.heap.size w w') := Lib.hid (by rw [HPOST.out, hd.1, hd.2]; unfold RF.val; rw [← hR])
      clear HPOST hd hok hR hgood HGo
      go_wp2_with fail
      have HS : Hid (DcS 37 w g2 wr.heap.size (fTag l 0) (wr.alloc (.cells zF 37))) := Lib.hid ⟨HN1.out.1.alloc _, by rw [fTag_zero, ← RF.zero_cells]; exact HasB.new _ _ _, HN1.out.2.alloc HN1.out.2.size _, HG.out, HN1.out.1.lt, by rw [fTag_zero]; exact RF.zero_ok⟩
      generalize wr.alloc (.cells zF 37) = w2 at HS ⊢
      obtain ⟨g5, hg5⟩ : ∃ g, g = wr.heap.size := ⟨_, rfl⟩
      rw [← hg5] at HS ⊢
      clear hg5 HN1 HQz
      have j1 : (4 : Int) ≤ (k : Int) := by have := H128.out; have := HLen.out; omega
      have j2 : (36 : Int) ≤ (k : Int) := by have := H128.out; have := HLen.out; omega
      have j3 : (100 : Int) ≤ (k : Int) := by have := H128.out; have := HLen.out; omega
      have j4 : (k : Int) ≤ (cap : Int) := by omega
      have j5 : ¬ (cap = 4) := by have := H128.out; have := HLen.out; omega
      have j6 : ¬ (cap = 36) := by have := H128.out; have := HLen.out; omega
      have j7 : ¬ (cap = 100) := by have := H128.out; have := HLen.out; omega
      have HK : Hid (128 ≤ k) := Lib.hid (by have := H128.out; have := HLen.out; omega)
      have HSrc := Lib.hid (src_at (o := 4) (n := 32) HS.out.be hbk HCell.out HLen.out (by have := HK.out; omega))
      have HLn : Hid (((l.drop 4).take 32).length = 32) := Lib.hid (by have := HK.out; have := HLen.out; simp; omega)
      have HCn : Hid ((u8s ((l.drop 4).take 32)).length = Nat.min (k - 4) 32) := Lib.hid (by rw [u8s_len, HLn.out]; have := HK.out; show 32 = min (k - 4) 32; omega)
      have HFit : Hid (0 + (u8s ((l.drop 4).take 32)).length ≤ (fTag l 0).cells.length) := Lib.hid (by rw [u8s_len, HLn.out, RF.cells_len HS.out.ok]; decide)
      refine wp_region_held_drew (S := (fun _ => True)) (by kernel_rfl) (trivial) (fun hHeld => ?_)
      refine held_take 0 (v := ?_) rfl (by kernel_rfl) (by kernel_rfl) (by kernel_rfl) (fun _ _ _ h => h) (by rfl) (fun w hS => ?_) (by assumption) ?_
      rotate_left
      · try dsimp only at hS
        go_simp <;> with_reducible rfl
      try simp only [Act.put, List.setIfInBounds_toArray, List.set_cons_zero, List.set_cons_succ]
      refine held_take 1 (v := ?_) rfl (by kernel_rfl) (by kernel_rfl) (by kernel_rfl) (fun _ _ _ h => h) (by rfl) (fun w hS => ?_) (by assumption) ?_
      rotate_left
      · try dsimp only at hS
        go_simp <;> with_reducible rfl
      try simp only [Act.put, List.setIfInBounds_toArray, List.set_cons_zero, List.set_cons_succ]
      refine held_take 2 (v := ?_) rfl (by kernel_rfl) (by kernel_rfl) (by kernel_rfl) (fun _ _ _ h => h) (by rfl) (fun w hS => ?_) (by assumption) ?_
      rotate_left
      · try dsimp only at hS
        go_simp <;> with_reducible rfl
      try simp only [Act.put, List.setIfInBounds_toArray, List.set_cons_zero, List.set_cons_succ]
      refine held_take 3 (v := ?_) rfl (by kernel_rfl) (by kernel_rfl) (by kernel_rfl) (fun _ _ _ h => h) (by rfl) (fun w hS => ?_) (by assumption) ?_
      rotate_left
      · try dsimp only at hS
        go_simp <;> with_reducible rfl
      try simp only [Act.put, List.setIfInBounds_toArray, List.set_cons_zero, List.set_cons_succ]
      refine held_one 4 rfl (by kernel_rfl) (fun K hK => ?_)
      refine step_copy_splice rfl (.tmp 35) (.tmp 37) 50 50 rfl 5 Try.underlying50 (by kernel_rfl) (some ⟨g5, 0, none⟩) (some ⟨bk, off + 4, none⟩) 32 32 (k - 4) (cap - 4) rfl rfl g5 0 (fTag l 0).cells 37 HS.out.box (u8s ((l.drop 4).take 32)) HCn.out (fun _ => ⟨rfl, _, rfl, HSrc.out⟩) HFit.out (u8s_one _) g5 w2.drew (Below.refl _ _) (Nat.le_refl _) ?_
      intro w3 hgx hbx
      generalize goInt (u8s ((l.drop 4).take 32)).length = C4
      refine hK.out _ _ (fun _ => True) (fun _ _ => trivial) trivial (fun hHeld => ?_)
      clear hK K
      try simp only [Act.put, List.setIfInBounds_toArray, List.set_cons_zero, List.set_cons_succ]
      refine held_done (by kernel_rfl) ?_
      have he : ({ (fTag l 0) with tag := (l.drop 4).take 32 } : RF) = fTag l 32 := by simp only [fTag, partTo_all]
      have hgy := hgx.out
      rw [RF.tag_splice _ _ HS.out.ok.tl HLn.out, he] at hgy
      have HS : Hid (DcS 37 w g2 g5 (fTag l 32) w3) := Lib.hid (HS.out.next hbx hgy  (fTag_ok H128.out HLt.out (by omega)))
      clear he hgy
      clear hgx hbx HSrc HCn HLn HFit
      go_wp2_with fail
      have HSrc := Lib.hid (src_at (o := 36) (n := 64) HS.out.be hbk HCell.out HLen.out (by have := HK.out; omega))
      have HLn : Hid (((l.drop 36).take 64).length = 64) := Lib.hid (by have := HK.out; have := HLen.out; simp; omega)
      have HCn : Hid ((u8s ((l.drop 36).take 64)).length = Nat.min (k - 36) 64) := Lib.hid (by rw [u8s_len, HLn.out]; have := HK.out; show 64 = min (k - 36) 64; omega)
      have HFit : Hid (32 + (u8s ((l.drop 36).take 64)).length ≤ (fTag l 32).cells.length) := Lib.hid (by rw [u8s_len, HLn.out, RF.cells_len HS.out.ok]; decide)
      refine wp_region_held_drew (S := (fun _ => True)) (by kernel_rfl) (trivial) (fun hHeld => ?_)
      refine held_take 0 (v := ?_) rfl (by kernel_rfl) (by kernel_rfl) (by kernel_rfl) (fun _ _ _ h => h) (by rfl) (fun w hS => ?_) (by assumption) ?_
      rotate_left
      · try dsimp only at hS
        go_simp <;> with_reducible rfl
      try simp only [Act.put, List.setIfInBounds_toArray, List.set_cons_zero, List.set_cons_succ]
      refine held_take 1 (v := ?_) rfl (by kernel_rfl) (by kernel_rfl) (by kernel_rfl) (fun _ _ _ h => h) (by rfl) (fun w hS => ?_) (by assumption) ?_
      rotate_left
      · try dsimp only at hS
        go_simp <;> with_reducible rfl
      try simp only [Act.put, List.setIfInBounds_toArray, List.set_cons_zero, List.set_cons_succ]
      refine held_take 2 (v := ?_) rfl (by kernel_rfl) (by kernel_rfl) (by kernel_rfl) (fun _ _ _ h => h) (by rfl) (fun w hS => ?_) (by assumption) ?_
      rotate_left
      · try dsimp only at hS
        go_simp <;> with_reducible rfl
      try simp only [Act.put, List.setIfInBounds_toArray, List.set_cons_zero, List.set_cons_succ]
      refine held_take 3 (v := ?_) rfl (by kernel_rfl) (by kernel_rfl) (by kernel_rfl) (fun _ _ _ h => h) (by rfl) (fun w hS => ?_) (by assumption) ?_
      rotate_left
      · try dsimp only at hS
        go_simp <;> with_reducible rfl
      try simp only [Act.put, List.setIfInBounds_toArray, List.set_cons_zero, List.set_cons_succ]
      refine held_one 4 rfl (by kernel_rfl) (fun K hK => ?_)
      refine step_copy_splice rfl (.tmp 40) (.tmp 42) 50 50 rfl 5 Try.underlying50 (by kernel_rfl) (some ⟨g5, 32, none⟩) (some ⟨bk, off + 36, none⟩) 64 64 (k - 36) (cap - 36) rfl rfl g5 32 (fTag l 32).cells 37 HS.out.box (u8s ((l.drop 36).take 64)) HCn.out (fun _ => ⟨rfl, _, rfl, HSrc.out⟩) HFit.out (u8s_one _) g5 w3.drew (Below.refl _ _) (Nat.le_refl _) ?_
      intro w4 hgx hbx
      generalize goInt (u8s ((l.drop 36).take 64)).length = C36
      refine hK.out _ _ (fun _ => True) (fun _ _ => trivial) trivial (fun hHeld => ?_)
      clear hK K
      try simp only [Act.put, List.setIfInBounds_toArray, List.set_cons_zero, List.set_cons_succ]
      refine held_done (by kernel_rfl) ?_
      have he : ({ (fTag l 32) with data := (l.drop 36).take 64 } : RF) = fData l 64 := by simp only [fData, partTo_all]
      have hgy := hgx.out
      rw [RF.data_splice HS.out.ok _ HLn.out, he] at hgy
      have HS : Hid (DcS 37 w g2 g5 (fData l 64) w4) := Lib.hid (HS.out.next hbx hgy (fData_ok H128.out HLt.out (by omega)))
      clear he hgy
      clear hgx hbx HSrc HCn HLn HFit
      go_wp2_with fail
      have HSrc := Lib.hid (src_at (o := 100) (n := 16) HS.out.be hbk HCell.out HLen.out (by have := HK.out; omega))
      have HLn : Hid (((l.drop 100).take 16).length = 16) := Lib.hid (by have := HK.out; have := HLen.out; simp; omega)
      have HCn : Hid ((u8s ((l.drop 100).take 16)).length = Nat.min (k - 100) 16) := Lib.hid (by rw [u8s_len, HLn.out]; have := HK.out; show 16 = min (k - 100) 16; omega)
      have HFit : Hid (96 + (u8s ((l.drop 100).take 16)).length ≤ (fData l 64).cells.length) := Lib.hid (by rw [u8s_len, HLn.out, RF.cells_len HS.out.ok]; decide)
      refine wp_region_held_drew (S := (fun _ => True)) (by kernel_rfl) (trivial) (fun hHeld => ?_)
      refine held_take 0 (v := ?_) rfl (by kernel_rfl) (by kernel_rfl) (by kernel_rfl) (fun _ _ _ h => h) (by rfl) (fun w hS => ?_) (by assumption) ?_
      rotate_left
      · try dsimp only at hS
        go_simp <;> with_reducible rfl
      try simp only [Act.put, List.setIfInBounds_toArray, List.set_cons_zero, List.set_cons_succ]
      refine held_take 1 (v := ?_) rfl (by kernel_rfl) (by kernel_rfl) (by kernel_rfl) (fun _ _ _ h => h) (by rfl) (fun w hS => ?_) (by assumption) ?_
      rotate_left
      · try dsimp only at hS
        go_simp <;> with_reducible rfl
      try simp only [Act.put, List.setIfInBounds_toArray, List.set_cons_zero, List.set_cons_succ]
      refine held_take 2 (v := ?_) rfl (by kernel_rfl) (by kernel_rfl) (by kernel_rfl) (fun _ _ _ h => h) (by rfl) (fun w hS => ?_) (by assumption) ?_
      rotate_left
      · try dsimp only at hS
        go_simp <;> with_reducible rfl
      try simp only [Act.put, List.setIfInBounds_toArray, List.set_cons_zero, List.set_cons_succ]
      refine held_take 3 (v := ?_) rfl (by kernel_rfl) (by kernel_rfl) (by kernel_rfl) (fun _ _ _ h => h) (by rfl) (fun w hS => ?_) (by assumption) ?_
      rotate_left
      · try dsimp only at hS
        go_simp <;> with_reducible rfl
      try simp only [Act.put, List.setIfInBounds_toArray, List.set_cons_zero, List.set_cons_succ]
      refine held_one 4 rfl (by kernel_rfl) (fun K hK => ?_)
      refine step_copy_splice rfl (.tmp 45) (.tmp 47) 50 50 rfl 5 Try.underlying50 (by kernel_rfl) (some ⟨g5, 96, none⟩) (some ⟨bk, off + 100, none⟩) 16 16 (k - 100) (cap - 100) rfl rfl g5 96 (fData l 64).cells 37 HS.out.box (u8s ((l.drop 100).take 16)) HCn.out (fun _ => ⟨rfl, _, rfl, HSrc.out⟩) HFit.out (u8s_one _) g5 w4.drew (Below.refl _ _) (Nat.le_refl _) ?_
      intro w5 hgx hbx
      generalize goInt (u8s ((l.drop 100).take 16)).length = C100
      refine hK.out _ _ (fun _ => True) (fun _ _ => trivial) trivial (fun hHeld => ?_)
      clear hK K
      try simp only [Act.put, List.setIfInBounds_toArray, List.set_cons_zero, List.set_cons_succ]
      refine held_done (by kernel_rfl) ?_
      have he : ({ (fData l 64) with nonce := (l.drop 100).take 16 } : RF) = fNonce l 16 := by simp only [fNonce, partTo_all]
      have hgy := hgx.out
      rw [RF.nonce_splice HS.out.ok _ HLn.out, he] at hgy
      have HS : Hid (DcS 37 w g2 g5 (fNonce l 16) w5) := Lib.hid (HS.out.next hbx hgy (fNonce_ok H128.out HLt.out (by omega)))
      clear he hgy
      clear hgx hbx HSrc HCn HLn HFit
      go_wp2_with fail
      clear j1 j2 j3 j4 j5 j6 j7
      have HS : Hid (DcS 37 w g2 g5 (fCtr l 0) w5) := Lib.hid (by rw [fCtr_zero]; exact HS.out)
      go_loopw [49] (fun i wr => ∃ j : Nat, j ≤ 4 ∧ i = .int .i64 (j : Int) ∧ Hid (DcS 37 w g2 g5 (fCtr l j) wr)) (fun i _ => 4 - (intOf i).toNat)
      case atStart => exact ⟨0, by omega, rfl, HS⟩
      case round =>
        clear HS
        obtain ⟨j, hj, rfl, HR2⟩ := hrel
        obtain ⟨wo, rfl⟩ : ∃ wo : World, wo = wr := ⟨_, rfl⟩
        by_cases jlt : j < 4
        · have t3 : (j : Int) < 4 := by omega
          obtain ⟨q, hq⟩ : ∃ q, q = 116 + j := ⟨_, rfl⟩
          have i0 : IntKind.i64.wrap ((116 : Int) + (j : Int)) = (q : Int) := by rw [IntKind.wrap_i64]; omega
          have j0 : (0 : Int) ≤ (q : Int) ∧ (q : Int) < (k : Int) := by have := HK.out; omega
          have d0 : wo.cell? ⟨bk, off + q, none⟩ = some (.int .u8 (l.getD q 0 : Nat)) := (HR2.out.be.cell (p := ⟨bk, _, none⟩) hbk).trans (HCell.out q (by omega))
          have d1 : wo.cell? ⟨g5, 112, none⟩ = some (.int .u32 (ctrTo l 116 j : Nat)) := (HR2.out.cell 112).trans (RF.at_tail HR2.out.ok 0 (by decide))
          have hf0 := HR2.out.box.free 112
          have l0 := getD_lt HLt.out q
          have HX := Lib.hid (DcS.ctrN H128.out HLt.out jlt HR2.out).drew
          have hor := ctrTo_u32 HLt.out jlt 116
          rw [← hq] at hor
          obtain ⟨x, hx⟩ : ∃ x, x = l.getD q 0 := ⟨_, rfl⟩
          rw [← hx] at d0 hor l0
          obtain ⟨C, hC⟩ : ∃ C, C = ctrTo l 116 j := ⟨_, rfl⟩
          obtain ⟨D, hD⟩ : ∃ D, D = ctrTo l 116 (j + 1) := ⟨_, rfl⟩
          obtain ⟨V, hV⟩ : ∃ V, IntKind.u32.wrap ((C : Int) * 256) = V := ⟨_, rfl⟩
          rw [← hC] at d1 hor
          rw [← hD] at hor HX
          rw [hV] at hor
          have u0 : IntKind.u32.wrap (x : Int) = (x : Int) := by rw [IntKind.wrap_u32]; omega
          clear hq hx hC hD HR2
          go_wp2_with fail
          go_still_tail 12, (by kernel_rfl)
          change wpList _ _ _ _ _ wo.drew
          go_wp2_with fail
          go_roundw
          case rel => exact ⟨j + 1, by omega, by go_num, HX⟩
          case measure => simp [intOf]; omega
        · have hjn : j = 4 := by omega
          have t3 : ¬ (j : Int) < 4 := by omega
          rw [hjn] at HR2
          clear hjn jlt hj
          have HPn : Hid (DcS 37 w g2 g5 (fCtr l 4) (wo.alloc (.cells (ptrL g5 0) 83)) ∧ HasB (wo.alloc (.cells (ptrL g5 0) 83)) wo.heap.size (ptrL g5 0) 83 ∧ g5 < wo.heap.size) := Lib.hid ⟨HR2.out.other _, HasB.new _ _ _, HR2.out.box.lt⟩
          unfold ptrL at HPn
          clear HR2
          go_wp2_with fail
          clear t3
          have HS : Hid (DcS 37 w g2 g5 (fCtr l 4) (wo.alloc (.cells #[.pointer (some ⟨g5, 113, none⟩), .pointer (some ⟨g5, 114, none⟩), .pointer (some ⟨g5, 115, none⟩), .pointer (some ⟨g5, 116, none⟩)] 83))) := Lib.hid HPn.out.1
          have HP : Hid (HasB (wo.alloc (.cells #[.pointer (some ⟨g5, 113, none⟩), .pointer (some ⟨g5, 114, none⟩), .pointer (some ⟨g5, 115, none⟩), .pointer (some ⟨g5, 116, none⟩)] 83)) wo.heap.size (ptrL g5 0) 83 ∧ g5 < wo.heap.size) := Lib.hid HPn.out.2
          clear HPn
          generalize (wo.alloc (.cells #[.pointer (some ⟨g5, 113, none⟩), .pointer (some ⟨g5, 114, none⟩), .pointer (some ⟨g5, 115, none⟩), .pointer (some ⟨g5, 116, none⟩)] 83)) = W0 at HS HP ⊢
          obtain ⟨gs, hgs⟩ : ∃ gs, gs = wo.heap.size := ⟨_, rfl⟩
          rw [← hgs] at HP ⊢
          clear hgs
          refine wp_loop_rounds 5 ?_
          rw [rounds_succ]
          have HBl := HLt.out
          have dp : W0.cell? ⟨gs, 0, none⟩ = some (.pointer (some ⟨g5, 113, none⟩)) := HP.out.1.at 0
          go_wp2_with fail
          have d0 : W0.cell? ⟨bk, off + 120, none⟩ = some (.int .u8 (l.getD 120 0 : Nat)) := (HS.out.be.cell (p := ⟨bk, _, none⟩) hbk).trans (HCell.out 120 (by have := HK.out; omega))
          have d1 : W0.cell? ⟨bk, off + 121, none⟩ = some (.int .u8 (l.getD 121 0 : Nat)) := (HS.out.be.cell (p := ⟨bk, _, none⟩) hbk).trans (HCell.out 121 (by have := HK.out; omega))
          have l0 := getD_lt HBl 120
          have l1 := getD_lt HBl 121
          have HN2 : Hid (n2 l 120 = ((l.getD 120 0 * 256 + l.getD 121 0 : Nat) : Int)) := Lib.hid rfl
          generalize l.getD 120 0 = x at d0 l0 HN2
          generalize l.getD 121 0 = y at d1 l1 HN2
          have b0 : (120 : Int) < (k : Int) := by have := HK.out; omega
          have b1 : (121 : Int) < (k : Int) := by have := HK.out; omega
          have u0 : IntKind.i64.wrap (x : Int) = (x : Int) := by rw [IntKind.wrap_i64]; omega
          have u1 : IntKind.i64.wrap (y : Int) = (y : Int) := by rw [IntKind.wrap_i64]; omega
          have s0 : IntKind.i64.wrap ((x : Int) * 256) = (x : Int) * 256 := by rw [IntKind.wrap_i64]; omega
          have c0 : IntKind.i64.wrap 120 = 120 := by decide
          have c1 : IntKind.i64.wrap 121 = 121 := by decide
          have c2 : IntKind.i64.wrap 0 = 0 := by decide
          have c3 : IntKind.i64.wrap 120 = 120 := by decide
          have c4 : IntKind.i64.wrap 121 = 121 := by decide
          obtain ⟨N, hN⟩ : ∃ N, N = n2 l 120 := ⟨_, rfl⟩
          have s1 : bits BinOp.or IntKind.i64 ((x : Int) * 256) (y : Int) = N := by rw [hN, HN2.out]; exact or_be x y l0 l1
          obtain ⟨v0, hv0⟩ := HS.out.old (k := 113) (by omega)
          have hf0 := HS.out.box.free 113
          have HX := Lib.hid (DcS.addrN H128.out HLt.out HS.out).drew
          have HPX : Hid (HasB (W0.setCell ⟨g5, 113, none⟩ (.int .i64 (n2 l 120))).drew gs (ptrL g5 0) 83 ∧ g5 < gs) := Lib.hid ⟨(HP.out.1.set_other (p := ⟨g5, 113, none⟩) (by have := HP.out.2; show gs ≠ g5; omega) _).drew, HP.out.2⟩
          rw [← hN] at HX HPX
          clear hN HN2 HBl HS dp HP
          go_still_tail 22, (by kernel_rfl)
          change wpList _ _ _ _ _ W0.drew
          go_wp2_with fail
          have HS : Hid (DcS 37 w g2 g5 (fAddr l) (W0.setCell ⟨g5, 113, none⟩ (.int .i64 N)).drew) := HX
          have HP := HPX
          generalize (W0.setCell ⟨g5, 113, none⟩ (.int .i64 N)).drew = W1 at HS HP ⊢
          clear HX HPX d0 d1 l0 l1 b0 b1 u0 u1 s0 s1 hv0 hf0 c0 c1 c2 c3 c4
          rw [rounds_succ]
          have HBl := HLt.out
          have dp : W1.cell? ⟨gs, 1, none⟩ = some (.pointer (some ⟨g5, 114, none⟩)) := HP.out.1.at 1
          go_wp2_with fail
          have d0 : W1.cell? ⟨bk, off + 122, none⟩ = some (.int .u8 (l.getD 122 0 : Nat)) := (HS.out.be.cell (p := ⟨bk, _, none⟩) hbk).trans (HCell.out 122 (by have := HK.out; omega))
          have d1 : W1.cell? ⟨bk, off + 123, none⟩ = some (.int .u8 (l.getD 123 0 : Nat)) := (HS.out.be.cell (p := ⟨bk, _, none⟩) hbk).trans (HCell.out 123 (by have := HK.out; omega))
          have l0 := getD_lt HBl 122
          have l1 := getD_lt HBl 123
          have HN2 : Hid (n2 l 122 = ((l.getD 122 0 * 256 + l.getD 123 0 : Nat) : Int)) := Lib.hid rfl
          generalize l.getD 122 0 = x at d0 l0 HN2
          generalize l.getD 123 0 = y at d1 l1 HN2
          have b0 : (122 : Int) < (k : Int) := by have := HK.out; omega
          have b1 : (123 : Int) < (k : Int) := by have := HK.out; omega
          have u0 : IntKind.i64.wrap (x : Int) = (x : Int) := by rw [IntKind.wrap_i64]; omega
          have u1 : IntKind.i64.wrap (y : Int) = (y : Int) := by rw [IntKind.wrap_i64]; omega
          have s0 : IntKind.i64.wrap ((x : Int) * 256) = (x : Int) * 256 := by rw [IntKind.wrap_i64]; omega
          have c0 : IntKind.i64.wrap 120 = 120 := by decide
          have c1 : IntKind.i64.wrap 121 = 121 := by decide
          have c2 : IntKind.i64.wrap 2 = 2 := by decide
          have c3 : IntKind.i64.wrap 122 = 122 := by decide
          have c4 : IntKind.i64.wrap 123 = 123 := by decide
          obtain ⟨N, hN⟩ : ∃ N, N = n2 l 122 := ⟨_, rfl⟩
          have s1 : bits BinOp.or IntKind.i64 ((x : Int) * 256) (y : Int) = N := by rw [hN, HN2.out]; exact or_be x y l0 l1
          obtain ⟨v0, hv0⟩ := HS.out.old (k := 114) (by omega)
          have hf0 := HS.out.box.free 114
          have HX := Lib.hid (DcS.countN H128.out HLt.out HS.out).drew
          have HPX : Hid (HasB (W1.setCell ⟨g5, 114, none⟩ (.int .i64 (n2 l 122))).drew gs (ptrL g5 0) 83 ∧ g5 < gs) := Lib.hid ⟨(HP.out.1.set_other (p := ⟨g5, 114, none⟩) (by have := HP.out.2; show gs ≠ g5; omega) _).drew, HP.out.2⟩
          rw [← hN] at HX HPX
          clear hN HN2 HBl HS dp HP
          go_still_tail 22, (by kernel_rfl)
          change wpList _ _ _ _ _ W1.drew
          go_wp2_with fail
          have HS : Hid (DcS 37 w g2 g5 (fCount l) (W1.setCell ⟨g5, 114, none⟩ (.int .i64 N)).drew) := HX
          have HP := HPX
          generalize (W1.setCell ⟨g5, 114, none⟩ (.int .i64 N)).drew = W2 at HS HP ⊢
          clear HX HPX d0 d1 l0 l1 b0 b1 u0 u1 s0 s1 hv0 hf0 c0 c1 c2 c3 c4
          rw [rounds_succ]
          have HBl := HLt.out
          have dp : W2.cell? ⟨gs, 2, none⟩ = some (.pointer (some ⟨g5, 115, none⟩)) := HP.out.1.at 2
          go_wp2_with fail
          have d0 : W2.cell? ⟨bk, off + 124, none⟩ = some (.int .u8 (l.getD 124 0 : Nat)) := (HS.out.be.cell (p := ⟨bk, _, none⟩) hbk).trans (HCell.out 124 (by have := HK.out; omega))
          have d1 : W2.cell? ⟨bk, off + 125, none⟩ = some (.int .u8 (l.getD 125 0 : Nat)) := (HS.out.be.cell (p := ⟨bk, _, none⟩) hbk).trans (HCell.out 125 (by have := HK.out; omega))
          have l0 := getD_lt HBl 124
          have l1 := getD_lt HBl 125
          have HN2 : Hid (n2 l 124 = ((l.getD 124 0 * 256 + l.getD 125 0 : Nat) : Int)) := Lib.hid rfl
          generalize l.getD 124 0 = x at d0 l0 HN2
          generalize l.getD 125 0 = y at d1 l1 HN2
          have b0 : (124 : Int) < (k : Int) := by have := HK.out; omega
          have b1 : (125 : Int) < (k : Int) := by have := HK.out; omega
          have u0 : IntKind.i64.wrap (x : Int) = (x : Int) := by rw [IntKind.wrap_i64]; omega
          have u1 : IntKind.i64.wrap (y : Int) = (y : Int) := by rw [IntKind.wrap_i64]; omega
          have s0 : IntKind.i64.wrap ((x : Int) * 256) = (x : Int) * 256 := by rw [IntKind.wrap_i64]; omega
          have c0 : IntKind.i64.wrap 120 = 120 := by decide
          have c1 : IntKind.i64.wrap 121 = 121 := by decide
          have c2 : IntKind.i64.wrap 4 = 4 := by decide
          have c3 : IntKind.i64.wrap 124 = 124 := by decide
          have c4 : IntKind.i64.wrap 125 = 125 := by decide
          obtain ⟨N, hN⟩ : ∃ N, N = n2 l 124 := ⟨_, rfl⟩
          have s1 : bits BinOp.or IntKind.i64 ((x : Int) * 256) (y : Int) = N := by rw [hN, HN2.out]; exact or_be x y l0 l1
          obtain ⟨v0, hv0⟩ := HS.out.old (k := 115) (by omega)
          have hf0 := HS.out.box.free 115
          have HX := Lib.hid (DcS.resN H128.out HLt.out HS.out).drew
          have HPX : Hid (HasB (W2.setCell ⟨g5, 115, none⟩ (.int .i64 (n2 l 124))).drew gs (ptrL g5 0) 83 ∧ g5 < gs) := Lib.hid ⟨(HP.out.1.set_other (p := ⟨g5, 115, none⟩) (by have := HP.out.2; show gs ≠ g5; omega) _).drew, HP.out.2⟩
          rw [← hN] at HX HPX
          clear hN HN2 HBl HS dp HP
          go_still_tail 22, (by kernel_rfl)
          change wpList _ _ _ _ _ W2.drew
          go_wp2_with fail
          have HS : Hid (DcS 37 w g2 g5 (fRes l) (W2.setCell ⟨g5, 115, none⟩ (.int .i64 N)).drew) := HX
          have HP := HPX
          generalize (W2.setCell ⟨g5, 115, none⟩ (.int .i64 N)).drew = W3 at HS HP ⊢
          clear HX HPX d0 d1 l0 l1 b0 b1 u0 u1 s0 s1 hv0 hf0 c0 c1 c2 c3 c4
          rw [rounds_succ]
          have HBl := HLt.out
          have dp : W3.cell? ⟨gs, 3, none⟩ = some (.pointer (some ⟨g5, 116, none⟩)) := HP.out.1.at 3
          go_wp2_with fail
          have d0 : W3.cell? ⟨bk, off + 126, none⟩ = some (.int .u8 (l.getD 126 0 : Nat)) := (HS.out.be.cell (p := ⟨bk, _, none⟩) hbk).trans (HCell.out 126 (by have := HK.out; omega))
          have d1 : W3.cell? ⟨bk, off + 127, none⟩ = some (.int .u8 (l.getD 127 0 : Nat)) := (HS.out.be.cell (p := ⟨bk, _, none⟩) hbk).trans (HCell.out 127 (by have := HK.out; omega))
          have l0 := getD_lt HBl 126
          have l1 := getD_lt HBl 127
          have HN2 : Hid (n2 l 126 = ((l.getD 126 0 * 256 + l.getD 127 0 : Nat) : Int)) := Lib.hid rfl
          generalize l.getD 126 0 = x at d0 l0 HN2
          generalize l.getD 127 0 = y at d1 l1 HN2
          have b0 : (126 : Int) < (k : Int) := by have := HK.out; omega
          have b1 : (127 : Int) < (k : Int) := by have := HK.out; omega
          have u0 : IntKind.i64.wrap (x : Int) = (x : Int) := by rw [IntKind.wrap_i64]; omega
          have u1 : IntKind.i64.wrap (y : Int) = (y : Int) := by rw [IntKind.wrap_i64]; omega
          have s0 : IntKind.i64.wrap ((x : Int) * 256) = (x : Int) * 256 := by rw [IntKind.wrap_i64]; omega
          have c0 : IntKind.i64.wrap 120 = 120 := by decide
          have c1 : IntKind.i64.wrap 121 = 121 := by decide
          have c2 : IntKind.i64.wrap 6 = 6 := by decide
          have c3 : IntKind.i64.wrap 126 = 126 := by decide
          have c4 : IntKind.i64.wrap 127 = 127 := by decide
          obtain ⟨N, hN⟩ : ∃ N, N = n2 l 126 := ⟨_, rfl⟩
          have s1 : bits BinOp.or IntKind.i64 ((x : Int) * 256) (y : Int) = N := by rw [hN, HN2.out]; exact or_be x y l0 l1
          obtain ⟨v0, hv0⟩ := HS.out.old (k := 116) (by omega)
          have hf0 := HS.out.box.free 116
          have HX := Lib.hid (DcS.typN H128.out HLt.out HS.out).drew
          have HPX : Hid (HasB (W3.setCell ⟨g5, 116, none⟩ (.int .i64 (n2 l 126))).drew gs (ptrL g5 0) 83 ∧ g5 < gs) := Lib.hid ⟨(HP.out.1.set_other (p := ⟨g5, 116, none⟩) (by have := HP.out.2; show gs ≠ g5; omega) _).drew, HP.out.2⟩
          rw [← hN] at HX HPX
          clear hN HN2 HBl HS dp HP
          go_still_tail 22, (by kernel_rfl)
          change wpList _ _ _ _ _ W3.drew
          go_wp2_with fail
          have HS : Hid (DcS 37 w g2 g5 (fTyp l) (W3.setCell ⟨g5, 116, none⟩ (.int .i64 N)).drew) := HX
          have HP := HPX
          generalize (W3.setCell ⟨g5, 116, none⟩ (.int .i64 N)).drew = W4 at HS HP ⊢
          clear HX HPX d0 d1 l0 l1 b0 b1 u0 u1 s0 s1 hv0 hf0 c0 c1 c2 c3 c4
          rw [rounds_succ]
          have HQ5 : Hid (W4.heap[g5]? = some (.cells R 37 (0, 0))) := Lib.hid (by rw [HR.out]; exact HS.out.box)
          have HQ2 : Hid (W4.heap[g2]? = some (.cells zF 37 (0, 0))) := Lib.hid HS.out.out
          have HW := Lib.hid (HS.out.fin R)
          go_wp2_with (first | (with_reducible refine wpList_load_row rfl 37 (.tmp 6) rfl g5 rfl 37 R (0, 0) _ HQ5.out Try.underlying37 rfl HIr.out ?_) | (with_reducible refine wpList_store_row rfl 37 (.tmp 2) (.tmp 99) rfl g2 R rfl rfl 37 _ HQ2.out HIr.out HOr.out HEr.out ?_))
          rw [HP2.out]
          exact bodyPost_ret (results_row_tmp (p := 2) (u := 3) (by kernel_rfl) _ _ g2 37 R (0, 0) _ _ rfl HW.out.1 rfl Try.underlying37 HIr.out rfl) rfl ⟨rfl, HW.out.2⟩
end Go.Proofs.Ytkdjimcpdbpemaa
namespace Go.Proofs.Ytkdjimcpdbpemaa
open Go Go.RowKit
set_option linter.unusedVariables false

/-! ### plain: a frame's bytes, read -/
theorem enc_front (f : RF) (k : Nat) (hk : k < 4) : f.enc.getD k 0 = 0 := by
  unfold RF.enc
  have : k = 0 ∨ k = 1 ∨ k = 2 ∨ k = 3 := by omega
  rcases this with rfl | rfl | rfl | rfl <;> rfl
theorem enc_good {f : RF} (h : f.Ok) : badIn f.enc = false := by
  unfold badIn
  rw [List.any_eq_false]
  intro j hj
  have hj : j < 128 := by have := List.mem_range.1 hj; rwa [RF.enc_len h] at this
  have : badB f.enc j = false := by
    unfold badB
    by_cases h4 : j < 4
    · rw [enc_front f j h4]; simp
    · simp; omega
  simp [this]
theorem enc_tail {f : RF} (h : f.Ok) (k : Nat) : f.enc.getD (116 + k) 0 = (be4 f.ctr ++ (be2 f.addr ++ (be2 f.count ++ (be2 f.res ++ be2 f.typ)))).getD k 0 := by
  have e1 : f.enc = ([0, 0, 0, 0] ++ (f.tag ++ (f.data ++ f.nonce))) ++ (be4 f.ctr ++ (be2 f.addr ++ (be2 f.count ++ (be2 f.res ++ be2 f.typ)))) := by simp [RF.enc]
  rw [e1]
  simp only [List.getD]
  rw [List.getElem?_append_right (by simp [h.tl, h.dl, h.nl])]
  congr 2
  simp [h.tl, h.dl, h.nl]
theorem dec_enc {f : RF} (h : f.Ok) : decR f.enc = { f with addr := f.addr % 65536, count := f.count % 65536, res := f.res % 65536, typ := f.typ % 65536 } := by
  have p1 : (f.enc.drop 4).take 32 = f.tag := by
    show (f.tag ++ (f.data ++ (f.nonce ++ (be4 f.ctr ++ (be2 f.addr ++ (be2 f.count ++ (be2 f.res ++ be2 f.typ))))))).take 32 = f.tag
    exact List.take_left' h.tl
  have p2 : (f.enc.drop 36).take 64 = f.data := by rw [RF.enc_drop h.tl, List.take_left' h.dl]
  have p3 : (f.enc.drop 100).take 16 = f.nonce := by
    rw [show 100 = 36 + 64 from rfl, ← List.drop_drop, RF.enc_drop h.tl, List.drop_left' h.dl, List.take_left' h.nl]
  have hc := h.cb
  have t : ∀ k, f.enc.getD (116 + k) 0 = _ := enc_tail h
  have q0 := t 0
  have q1 := t 1
  have q2 := t 2
  have q3 := t 3
  have q4 := t 4
  have q5 := t 5
  have q6 := t 6
  have q7 := t 7
  have q8 := t 8
  have q9 := t 9
  have qa := t 10
  have qb := t 11
  simp only [be4, be2, List.cons_append, List.nil_append, List.getD_cons_zero, List.getD_cons_succ, Nat.reduceAdd] at q0 q1 q2 q3 q4 q5 q6 q7 q8 q9 qa qb
  have c0 : n4 f.enc 116 = f.ctr := by unfold n4; simp only [Nat.reduceAdd]; rw [q0, q1, q2, q3]; omega
  have c1 : n2 f.enc 120 = f.addr % 65536 := by unfold n2; simp only [Nat.reduceAdd]; rw [q4, q5]; omega
  have c2 : n2 f.enc 122 = f.count % 65536 := by unfold n2; simp only [Nat.reduceAdd]; rw [q6, q7]; omega
  have c3 : n2 f.enc 124 = f.res % 65536 := by unfold n2; simp only [Nat.reduceAdd]; rw [q8, q9]; omega
  have c4 : n2 f.enc 126 = f.typ % 65536 := by unfold n2; simp only [Nat.reduceAdd]; rw [qa, qb]; omega
  unfold decR
  rw [p1, p2, p3, c0, c1, c2, c3, c4]
theorem decE_enc {f : RF} (h : f.Ok) : decE f.enc = 0 := (decF_good (by rw [RF.enc_len h]; decide) (enc_good h)).2
theorem decF_enc {f : RF} (h : f.Ok) : decF f.enc = decR f.enc := by rw [(decF_good (by rw [RF.enc_len h]; decide) (enc_good h)).1, fTyp_eq]
def SmallF (f : RF) : Prop := (0 ≤ f.addr ∧ f.addr < 65536) ∧ (0 ≤ f.count ∧ f.count < 65536) ∧ (0 ≤ f.res ∧ f.res < 65536) ∧ (0 ≤ f.typ ∧ f.typ < 65536)
theorem dec_small {f : RF} (h : f.Ok) (hs : SmallF f) : decF f.enc = f := by
  rw [decF_enc h, dec_enc h, Int.emod_eq_of_lt hs.1.1 hs.1.2, Int.emod_eq_of_lt hs.2.1.1 hs.2.1.2, Int.emod_eq_of_lt hs.2.2.1.1 hs.2.2.1.2, Int.emod_eq_of_lt hs.2.2.2.1 hs.2.2.2.2]

/-! ### boxes -/
structure BxS (w0 w : World) (bs : List (Nat × Array Value × TypeId)) : Prop where
  be : Below w0.heap.size w0 w
  box : ∀ b ∈ bs, HasB w b.1 b.2.1 b.2.2
section
variable {w0 w w' : World} {bs bs' : List (Nat × Array Value × TypeId)}
theorem BxS.at (h : BxS w0 w bs) {k : Nat} {C : Array Value} {T : TypeId} (hm : (k, C, T) ∈ bs) : HasB w k C T := h.box _ hm
theorem BxS.below (h : BxS w0 w bs) (hb : Below w.heap.size w w') : BxS w0 w' bs := ⟨h.be.trans (hb.mono h.be.size), fun b hm => (h.box b hm).below hb (h.box b hm).lt⟩
theorem BxS.made (h : BxS w0 w bs) (C : Array Value) (T : TypeId) : BxS w0 (w.alloc (.cells C T)) ((w.heap.size, C, T) :: bs) := by
  refine ⟨h.be.alloc h.be.size _, fun b hb => ?_⟩
  rcases List.mem_cons.1 hb with rfl | hb
  · exact HasB.new _ _ _
  · exact (h.box b hb).alloc _
end

set_option maxRecDepth 100000 in
set_option maxHeartbeats 8000000 in
theorem frames_any (f : RF) (key : List Nat) (a : Option Addr) (len cap : Nat) (l : List Nat) (w : World) (hf : f.Ok) (hk : key.length = 32 ∧ ∀ c ∈ key, c < 256) (hi : Bytes w a len l) (hcap : len ≤ cap) (hcm : cap ≤ 9223372036854775807) :
    Calls Try.prog 4 #[f.val, .slice a len cap, .agg (u8s key).toArray] w fun e w' => e = .returned (.bool true) ∧ Below w.heap.size w w' := by
  obtain ⟨POST, hPOST⟩ : ∃ Q : Ending → World → Prop, Q = fun e w' => e = .returned (.bool true) ∧ Below w.heap.size w w' := ⟨_, rfl⟩
  rw [← hPOST]
  have HPOST := Lib.hid hPOST
  have HF := Lib.hid hf
  have HBy := Lib.hid hi
  have HCap := Lib.hid (And.intro hcap hcm)
  have hen := fun w => renc_any f w hf
  have hfr := fun w => from_any f w hf
  have hre := fun w => refenc_any f w hf
  have hsn := fun w => rsign_any f key w hf hk.1 hk.2
  have hrs := fun w => refsign_any f key w hf hk.1 hk.2
  have hfs := fun w => from_any (f.sign key) w (RF.sign_ok hf key)
  have hfd := fun w => from_any (decF l) w (decF_ok hi.2.1)
  have hdok := decF_ok hi.2.1
  have hsok := RF.sign_ok hf key
  have hel := RF.enc_len hf
  have heb := RF.enc_lt hf
  have hyok : (decF f.enc).Ok := decF_ok (RF.enc_lt hf)
  unfold RF.val at hen hfr hre hsn hrs hfs hfd ⊢
  obtain ⟨C, hC⟩ : ∃ N, N = f.cells.toArray := ⟨_, rfl⟩
  obtain ⟨KC, hKC⟩ : ∃ N, N = (u8s key).toArray := ⟨_, rfl⟩
  obtain ⟨En, hEn⟩ : ∃ N, N = (u8s f.enc).toArray := ⟨_, rfl⟩
  obtain ⟨D, hD⟩ : ∃ N, N = (decF l).cells.toArray := ⟨_, rfl⟩
  obtain ⟨Y, hY⟩ : ∃ N, N = (decF f.enc).cells.toArray := ⟨_, rfl⟩
  obtain ⟨Sg, hSg⟩ : ∃ N, N = (f.sign key).cells.toArray := ⟨_, rfl⟩
  have n1 : ∀ w, (binOp .neq 45 (.agg En) (.agg En)).run Try.prog w = .ok (.bool false) w := fun w => by
    rw [hEn, run_neq_struct, equalIn_u8s 9998 45 128 Try.underlying45 heb heb hel hel w]; simp
  have n2' : ∀ w, (binOp .neq 54 (.agg D) (.agg D)).run Try.prog w = .ok (.bool false) w := fun w => by rw [hD, neqFrameR _ _ hdok hdok w]; simp
  have n3 : ∀ w, (binOp .neq 54 (.agg Sg) (.agg Sg)).run Try.prog w = .ok (.bool false) w := fun w => by rw [hSg, neqFrameR _ _ hsok hsok w]; simp
  rw [← hC] at hen hfr hre hsn hrs ⊢
  rw [← hKC] at hsn hrs ⊢
  rw [← hEn] at hen hre
  rw [← hSg] at hsn hrs hfs
  rw [← hD] at hfd
  have HIC : Hid ((Try.prog.info? 37).map (·.size) = some C.size) := Lib.hid (by rw [hC]; exact info_f hf)
  have HOC : Hid (zF.size = C.size) := Lib.hid (by rw [hC]; exact old_f hf)
  have HEC : Hid (C.all (·.oneCell') = true) := Lib.hid (by rw [hC]; exact RF.one _)
  have HID : Hid ((Try.prog.info? 37).map (·.size) = some D.size) := Lib.hid (by rw [hD]; exact info_f hdok)
  have HOD : Hid (zF.size = D.size) := Lib.hid (by rw [hD]; exact old_f hdok)
  have HED : Hid (D.all (·.oneCell') = true) := Lib.hid (by rw [hD]; exact RF.one _)
  have HIY : Hid ((Try.prog.info? 37).map (·.size) = some Y.size) := Lib.hid (by rw [hY]; exact info_f hyok)
  have HOY : Hid (zF.size = Y.size) := Lib.hid (by rw [hY]; exact old_f hyok)
  have HEY : Hid (Y.all (·.oneCell') = true) := Lib.hid (by rw [hY]; exact RF.one _)
  have HIDr : Hid ((Try.prog.info? 54).map (·.size) = some D.size) := Lib.hid (by rw [hD, List.size_toArray, RF.cells_len hdok]; kernel_rfl)
  have HIk : Hid ((Try.prog.info? 22).map (·.size) = some KC.size) := Lib.hid (by rw [hKC, List.size_toArray, u8s_len, hk.1]; exact info_k32)
  have hes : En.size = 128 := by rw [hEn, List.size_toArray, u8s_len, hel]
  have HIe : Hid ((Try.prog.info? 45).map (·.size) = some En.size) := Lib.hid (by rw [hes]; exact info_128)
  have HOe : Hid (z128.size = En.size) := Lib.hid (by rw [hes]; rfl)
  have HEe : Hid (En.all (·.oneCell') = true) := Lib.hid (by rw [hEn]; exact u8_oneA _)
  have HEn := Lib.hid hEn
  have HY := Lib.hid hY
  have HC := Lib.hid hC
  have HD := Lib.hid hD
  have Hen := Lib.hid hen
  have Hfr := Lib.hid hfr
  have Hre := Lib.hid hre
  have Hsn := Lib.hid hsn
  have Hrs := Lib.hid hrs
  have Hfs := Lib.hid hfs
  have Hfd := Lib.hid hfd
  have N1 := Lib.hid n1
  have N2 := Lib.hid n2'
  have N3 := Lib.hid n3
  have HYok := Lib.hid hyok
  have B0 : Hid (BxS w ((w.alloc (.cells C 37)).alloc (.cells KC 22)) [((w.alloc (.cells C 37)).heap.size, KC, 22), (w.heap.size, C, 37)]) := Lib.hid (((⟨Below.refl _ _, fun b hb => by cases hb⟩ : BxS w w []).made C 37).made KC 22)
  clear hPOST hf hk hi hcap hcm hen hfr hre hsn hrs hfs hfd hdok hsok hel heb hyok hC hKC hEn hD hY hSg n1 n2' n3 hes
  go_enter Try.func4, Try.ntmps4
  go_wp2_with fail
  generalize (w.alloc (.cells C 37)).alloc (.cells KC 22) = w1 at B0 ⊢
  obtain ⟨gf, hgf⟩ : ∃ g, g = w.heap.size := ⟨_, rfl⟩
  obtain ⟨gk, hgk⟩ : ∃ g, g = w.heap.size + 1 := ⟨_, rfl⟩
  rw [show (w.alloc (.cells C 37)).heap.size = w.heap.size + 1 by simp, ← hgk, ← hgf] at B0
  rw [← hgk, ← hgf]
  clear hgf hgk
  refine (known_any w1).mono ?_
  rintro e w2 ⟨rfl, hb⟩
  have B2 := Lib.hid (B0.out.below hb)
  clear hb B0
  by_cases h2000 : 2000 < len
  · have t1 : (2000 : Int) < (len : Int) := by omega
    go_wp2_with fail
    rw [HPOST.out]
    exact ⟨rfl, B2.out.be⟩
  have t1 : ¬ (2000 : Int) < (len : Int) := by omega
  have HB2 : Hid (Bytes w2 a len l) := Lib.hid (HBy.out.below B2.out.be (Nat.le_refl _))
  have HDc := Lib.hid (rdec_any a len cap l w2 HB2.out (by omega) HCap.out.1 HCap.out.2)
  unfold RF.val at HDc
  rw [← HD.out] at HDc
  obtain ⟨Er, hEr⟩ : ∃ x, x = decE l := ⟨_, rfl⟩
  rw [← hEr] at HDc
  have HEr := Lib.hid hEr
  clear hEr
  go_wp2_with fail
  refine HDc.out.mono ?_
  rintro e w3 ⟨rfl, hb⟩
  have B3 := Lib.hid (B2.out.below hb)
  have HB3 : Hid (Bytes w3 a len l) := Lib.hid (HB2.out.below hb (Nat.le_refl _))
  clear hb B2 HDc HB2
  go_wp2_with (with_reducible refine wpList_store_row rfl 37 (.tmp 7) (.tmp 22) rfl w3.heap.size D rfl rfl 37 zF (heap_new w3 _) HID.out HOD.out HED.out ?_; rw [World.setRow_alloc_new]; refine Stop.mk ?_)
  refine Stop.go ?_
  have B4 := Lib.hid (B3.out.made D 37)
  have HB4 : Hid (Bytes (w3.alloc (.cells D 37)) a len l) := Lib.hid (HB3.out.alloc _)
  generalize w3.alloc (.cells D 37) = w4 at B4 HB4 ⊢
  obtain ⟨gd, hgd⟩ : ∃ g, g = w3.heap.size := ⟨_, rfl⟩
  rw [← hgd] at B4 ⊢
  clear hgd B3 HB3
  have HRd := Lib.hid (refdec_any a len cap l w4 HB4.out (by omega))
  unfold RF.val at HRd
  rw [← HD.out, ← HEr.out] at HRd
  go_wp2_with fail
  refine HRd.out.mono ?_
  rintro e w5 ⟨rfl, hb⟩
  have B5 := Lib.hid (B4.out.below hb)
  clear hb B4 HRd HB4
  go_wp2_with (with_reducible refine wpList_store_row rfl 54 (.tmp 9) (.tmp 27) rfl w5.heap.size D rfl rfl 54 zF (heap_new w5 _) HIDr.out HOD.out HED.out ?_; rw [World.setRow_alloc_new]; refine Stop.mk ?_)
  refine Stop.go ?_
  have B6 := Lib.hid (B5.out.made D 54)
  generalize w5.alloc (.cells D 54) = w6 at B6 ⊢
  obtain ⟨gh, hgh⟩ : ∃ g, g = w5.heap.size := ⟨_, rfl⟩
  rw [← hgh] at B6 ⊢
  clear hgh B5
  have HAt : Hid (∀ w', Below w6.heap.size w6 w' → w'.heap[gf]? = some (.cells C 37 (0, 0)) ∧ w'.heap[gk]? = some (.cells KC 22 (0, 0)) ∧ w'.heap[gd]? = some (.cells D 37 (0, 0)) ∧ w'.heap[gh]? = some (.cells D 54 (0, 0))) := Lib.hid (fun w' hb => by
    have B := B6.out.below hb
    exact ⟨B.at (by simp), B.at (by simp), B.at (by simp), B.at (by simp)⟩)
  have n1 := N1.out
  have n2' := N2.out
  have n3 := N3.out
  go_wp2_with fail
  refine wp_region_held_drew (S := (fun w' => Below w6.heap.size w6 w')) (by kernel_rfl) ((Below.refl _ _).drew) (fun hHeld => ?_)
  refine held_take 0 (v := (.agg C)) rfl (by kernel_rfl) (by kernel_rfl) (by kernel_rfl) (fun _ _ _ h => h) (by rfl) (fun w hS => ?_) (by assumption) ?_
  · exact yield_row _ _ 37 (.tmp 3) (by rfl) gf (by rfl) 37 C (0, 0) _ (HAt.out w hS).1 Try.underlying37 (by rfl) HIC.out
  try simp only [Act.put, List.setIfInBounds_toArray, List.set_cons_zero, List.set_cons_succ]
  refine held_take 2 (v := (.agg C)) rfl (by kernel_rfl) (by kernel_rfl) (by kernel_rfl) (fun _ _ _ h => h) (by rfl) (fun w hS => ?_) (by assumption) ?_
  · exact yield_row _ _ 37 (.tmp 3) (by rfl) gf (by rfl) 37 C (0, 0) _ (HAt.out w hS).1 Try.underlying37 (by rfl) HIC.out
  try simp only [Act.put, List.setIfInBounds_toArray, List.set_cons_zero, List.set_cons_succ]
  refine held_one 1 rfl (by kernel_rfl) (fun K hK => ?_)
  go_simp
  refine Calls.mono (Hen.out _) ?_
  rintro e q0 ⟨rfl, hb⟩
  have P0 : Hid (Below w6.heap.size w6 q0) := Lib.hid ((Below.refl w6.heap.size w6).drew.trans (hb.mono (Below.refl w6.heap.size w6).drew.size))
  clear hb
  refine hK.out _ _ (fun w' => Below w6.heap.size w6 w') (fun _ h => h) P0.out (fun hHeld => ?_)
  clear hK K
  try simp only [Act.put, List.setIfInBounds_toArray, List.set_cons_zero, List.set_cons_succ]
  refine held_one 3 rfl (by kernel_rfl) (fun K hK => ?_)
  go_simp
  refine Calls.mono (Hfr.out _) ?_
  rintro e q1 ⟨rfl, hb⟩
  have P1 : Hid (Below w6.heap.size w6 q1) := Lib.hid (P0.out.trans (hb.mono P0.out.size))
  clear hb
  refine hK.out _ _ (fun w' => Below w6.heap.size w6 w') (fun _ h => h) P1.out (fun hHeld => ?_)
  clear hK K
  try simp only [Act.put, List.setIfInBounds_toArray, List.set_cons_zero, List.set_cons_succ]
  refine held_one 4 rfl (by kernel_rfl) (fun K hK => ?_)
  go_simp
  refine Calls.mono (Hre.out _) ?_
  rintro e q2 ⟨rfl, hb⟩
  have P2 : Hid (Below w6.heap.size w6 q2) := Lib.hid (P1.out.trans (hb.mono P1.out.size))
  clear hb
  refine hK.out _ _ (fun w' => Below w6.heap.size w6 w') (fun _ h => h) P2.out (fun hHeld => ?_)
  clear hK K
  try simp only [Act.put, List.setIfInBounds_toArray, List.set_cons_zero, List.set_cons_succ]
  refine held_take 5 (v := ?_) rfl (by kernel_rfl) (by kernel_rfl) (by kernel_rfl) (fun _ _ _ h => h) (by rfl) (fun w hS => ?_) (by assumption) ?_
  rotate_left
  · try dsimp only at hS
    go_simp <;> with_reducible rfl
  try simp only [Act.put, List.setIfInBounds_toArray, List.set_cons_zero, List.set_cons_succ]
  refine held_take 6 (v := ?_) rfl (by kernel_rfl) (by kernel_rfl) (by kernel_rfl) (fun _ _ _ h => h) (by rfl) (fun w hS => ?_) (by assumption) ?_
  rotate_left
  · try dsimp only at hS
    go_simp <;> with_reducible rfl
  try simp only [Act.put, List.setIfInBounds_toArray, List.set_cons_zero, List.set_cons_succ]
  refine held_take 7 (v := (.agg D)) rfl (by kernel_rfl) (by kernel_rfl) (by kernel_rfl) (fun _ _ _ h => h) (by rfl) (fun w hS => ?_) (by assumption) ?_
  · exact yield_row _ _ 37 (.tmp 7) (by rfl) gd (by rfl) 37 D (0, 0) _ (HAt.out w hS).2.2.1 Try.underlying37 (by rfl) HID.out
  try simp only [Act.put, List.setIfInBounds_toArray, List.set_cons_zero, List.set_cons_succ]
  refine held_take 9 (v := (.agg D)) rfl (by kernel_rfl) (by kernel_rfl) (by kernel_rfl) (fun _ _ _ h => h) (by rfl) (fun w hS => ?_) (by assumption) ?_
  · exact yield_row _ _ 54 (.tmp 9) (by rfl) gh (by rfl) 54 D (0, 0) _ (HAt.out w hS).2.2.2 Try.underlying54 (by rfl) HIDr.out
  try simp only [Act.put, List.setIfInBounds_toArray, List.set_cons_zero, List.set_cons_succ]
  refine held_one 8 rfl (by kernel_rfl) (fun K hK => ?_)
  go_simp
  refine Calls.mono (Hfd.out _) ?_
  rintro e q3 ⟨rfl, hb⟩
  have P3 : Hid (Below w6.heap.size w6 q3) := Lib.hid (P2.out.trans (hb.mono P2.out.size))
  clear hb
  refine hK.out _ _ (fun w' => Below w6.heap.size w6 w') (fun _ h => h) P3.out (fun hHeld => ?_)
  clear hK K
  try simp only [Act.put, List.setIfInBounds_toArray, List.set_cons_zero, List.set_cons_succ]
  refine held_take 10 (v := ?_) rfl (by kernel_rfl) (by kernel_rfl) (by kernel_rfl) (fun _ _ _ h => h) (by rfl) (fun w hS => ?_) (by assumption) ?_
  rotate_left
  · try dsimp only at hS
    go_simp <;> with_reducible rfl
  try simp only [Act.put, List.setIfInBounds_toArray, List.set_cons_zero, List.set_cons_succ]
  refine held_take 11 (v := ?_) rfl (by kernel_rfl) (by kernel_rfl) (by kernel_rfl) (fun _ _ _ h => h) (by rfl) (fun w hS => ?_) (by assumption) ?_
  rotate_left
  · try dsimp only at hS
    go_simp <;> with_reducible rfl
  try simp only [Act.put, List.setIfInBounds_toArray, List.set_cons_zero, List.set_cons_succ]
  refine held_take 12 (v := ?_) rfl (by kernel_rfl) (by kernel_rfl) (by kernel_rfl) (fun _ _ _ h => h) (by rfl) (fun w hS => ?_) (by assumption) ?_
  rotate_left
  · try dsimp only at hS
    go_simp <;> with_reducible rfl
  try simp only [Act.put, List.setIfInBounds_toArray, List.set_cons_zero, List.set_cons_succ]
  refine held_take 13 (v := ?_) rfl (by kernel_rfl) (by kernel_rfl) (by kernel_rfl) (fun _ _ _ h => h) (by rfl) (fun w hS => ?_) (by assumption) ?_
  rotate_left
  · try dsimp only at hS
    go_simp <;> with_reducible rfl
  try simp only [Act.put, List.setIfInBounds_toArray, List.set_cons_zero, List.set_cons_succ]
  refine held_take 14 (v := ?_) rfl (by kernel_rfl) (by kernel_rfl) (by kernel_rfl) (fun _ _ _ h => h) (by rfl) (fun w hS => ?_) (by assumption) ?_
  rotate_left
  · try dsimp only at hS
    go_simp <;> with_reducible rfl
  try simp only [Act.put, List.setIfInBounds_toArray, List.set_cons_zero, List.set_cons_succ]
  refine held_take 15 (v := ?_) rfl (by kernel_rfl) (by kernel_rfl) (by kernel_rfl) (fun _ _ _ h => h) (by rfl) (fun w hS => ?_) (by assumption) ?_
  rotate_left
  · try dsimp only at hS
    go_simp <;> with_reducible rfl
  try simp only [Act.put, List.setIfInBounds_toArray, List.set_cons_zero, List.set_cons_succ]
  refine held_take 16 (v := ?_) rfl (by kernel_rfl) (by kernel_rfl) (by kernel_rfl) (fun _ _ _ h => h) (by rfl) (fun w hS => ?_) (by assumption) ?_
  rotate_left
  · try dsimp only at hS
    go_simp <;> with_reducible rfl
  try simp only [Act.put, List.setIfInBounds_toArray, List.set_cons_zero, List.set_cons_succ]
  refine held_take 17 (v := ?_) rfl (by kernel_rfl) (by kernel_rfl) (by kernel_rfl) (fun _ _ _ h => h) (by rfl) (fun w hS => ?_) (by assumption) ?_
  rotate_left
  · try dsimp only at hS
    go_simp <;> with_reducible rfl
  try simp only [Act.put, List.setIfInBounds_toArray, List.set_cons_zero, List.set_cons_succ]
  refine held_take 18 (v := (.agg C)) rfl (by kernel_rfl) (by kernel_rfl) (by kernel_rfl) (fun _ _ _ h => h) (by rfl) (fun w hS => ?_) (by assumption) ?_
  · exact yield_row _ _ 37 (.tmp 3) (by rfl) gf (by rfl) 37 C (0, 0) _ (HAt.out w hS).1 Try.underlying37 (by rfl) HIC.out
  try simp only [Act.put, List.setIfInBounds_toArray, List.set_cons_zero, List.set_cons_succ]
  refine held_take 19 (v := (.agg KC)) rfl (by kernel_rfl) (by kernel_rfl) (by kernel_rfl) (fun _ _ _ h => h) (by rfl) (fun w hS => ?_) (by assumption) ?_
  · exact yield_row _ _ 22 (.tmp 5) (by rfl) gk (by rfl) 22 KC (0, 0) _ (HAt.out w hS).2.1 Try.underlying22 (by rfl) HIk.out
  try simp only [Act.put, List.setIfInBounds_toArray, List.set_cons_zero, List.set_cons_succ]
  refine held_take 22 (v := (.agg C)) rfl (by kernel_rfl) (by kernel_rfl) (by kernel_rfl) (fun _ _ _ h => h) (by rfl) (fun w hS => ?_) (by assumption) ?_
  · exact yield_row _ _ 37 (.tmp 3) (by rfl) gf (by rfl) 37 C (0, 0) _ (HAt.out w hS).1 Try.underlying37 (by rfl) HIC.out
  try simp only [Act.put, List.setIfInBounds_toArray, List.set_cons_zero, List.set_cons_succ]
  refine held_take 24 (v := (.agg KC)) rfl (by kernel_rfl) (by kernel_rfl) (by kernel_rfl) (fun _ _ _ h => h) (by rfl) (fun w hS => ?_) (by assumption) ?_
  · exact yield_row _ _ 22 (.tmp 5) (by rfl) gk (by rfl) 22 KC (0, 0) _ (HAt.out w hS).2.1 Try.underlying22 (by rfl) HIk.out
  try simp only [Act.put, List.setIfInBounds_toArray, List.set_cons_zero, List.set_cons_succ]
  refine held_one 20 rfl (by kernel_rfl) (fun K hK => ?_)
  go_simp
  refine Calls.mono (Hsn.out _) ?_
  rintro e q4 ⟨rfl, hb⟩
  have P4 : Hid (Below w6.heap.size w6 q4) := Lib.hid (P3.out.trans (hb.mono P3.out.size))
  clear hb
  refine hK.out _ _ (fun w' => Below w6.heap.size w6 w') (fun _ h => h) P4.out (fun hHeld => ?_)
  clear hK K
  try simp only [Act.put, List.setIfInBounds_toArray, List.set_cons_zero, List.set_cons_succ]
  refine held_one 21 rfl (by kernel_rfl) (fun K hK => ?_)
  go_simp
  refine Calls.mono (Hfs.out _) ?_
  rintro e q5 ⟨rfl, hb⟩
  have P5 : Hid (Below w6.heap.size w6 q5) := Lib.hid (P4.out.trans (hb.mono P4.out.size))
  clear hb
  refine hK.out _ _ (fun w' => Below w6.heap.size w6 w') (fun _ h => h) P5.out (fun hHeld => ?_)
  clear hK K
  try simp only [Act.put, List.setIfInBounds_toArray, List.set_cons_zero, List.set_cons_succ]
  refine held_one 23 rfl (by kernel_rfl) (fun K hK => ?_)
  go_simp
  refine Calls.mono (Hfr.out _) ?_
  rintro e q6 ⟨rfl, hb⟩
  have P6 : Hid (Below w6.heap.size w6 q6) := Lib.hid (P5.out.trans (hb.mono P5.out.size))
  clear hb
  refine hK.out _ _ (fun w' => Below w6.heap.size w6 w') (fun _ h => h) P6.out (fun hHeld => ?_)
  clear hK K
  try simp only [Act.put, List.setIfInBounds_toArray, List.set_cons_zero, List.set_cons_succ]
  refine held_one 25 rfl (by kernel_rfl) (fun K hK => ?_)
  go_simp
  refine Calls.mono (Hrs.out _) ?_
  rintro e q7 ⟨rfl, hb⟩
  have P7 : Hid (Below w6.heap.size w6 q7) := Lib.hid (P6.out.trans (hb.mono P6.out.size))
  clear hb
  refine hK.out _ _ (fun w' => Below w6.heap.size w6 w') (fun _ h => h) P7.out (fun hHeld => ?_)
  clear hK K
  try simp only [Act.put, List.setIfInBounds_toArray, List.set_cons_zero, List.set_cons_succ]
  refine held_take 26 (v := ?_) rfl (by kernel_rfl) (by kernel_rfl) (by kernel_rfl) (fun _ _ _ h => h) (by rfl) (fun w hS => ?_) (by assumption) ?_
  rotate_left
  · try dsimp only at hS
    go_simp <;> with_reducible rfl
  try simp only [Act.put, List.setIfInBounds_toArray, List.set_cons_zero, List.set_cons_succ]
  refine held_take 27 (v := ?_) rfl (by kernel_rfl) (by kernel_rfl) (by kernel_rfl) (fun _ _ _ h => h) (by rfl) (fun w hS => ?_) (by assumption) ?_
  rotate_left
  · try dsimp only at hS
    go_simp <;> with_reducible rfl
  try simp only [Act.put, List.setIfInBounds_toArray, List.set_cons_zero, List.set_cons_succ]
  refine held_done (by kernel_rfl) ?_
  have B7 := Lib.hid (B6.out.below P7.out)
  clear n1 n2' n3 HAt B6 P0 P1 P2 P3 P4 P5 P6 P7
  have HQf : Hid (q7.heap[gf]? = some (.cells C 37 (0, 0))) := Lib.hid (B7.out.at (by simp))
  go_wp2_with (with_reducible refine wpList_load_row rfl 37 (.tmp 3) rfl gf rfl 37 C (0, 0) _ HQf.out Try.underlying37 rfl HIC.out ?_)
  refine (Hen.out q7).mono ?_
  rintro e w8 ⟨rfl, hb⟩
  have B8 := Lib.hid (B7.out.below hb)
  clear hb B7 HQf
  go_wp2_with (with_reducible refine wpList_store_row rfl 45 (.tmp 11) (.tmp 58) rfl w8.heap.size En rfl rfl 45 z128 (heap_new w8 _) HIe.out HOe.out HEe.out ?_; rw [World.setRow_alloc_new]; refine Stop.mk ?_)
  refine Stop.go ?_
  have B9 := Lib.hid (B8.out.made En 45)
  generalize w8.alloc (.cells En 45) = w9 at B9 ⊢
  obtain ⟨gx, hgx⟩ : ∃ g, g = w8.heap.size := ⟨_, rfl⟩
  rw [← hgx] at B9 ⊢
  clear hgx B8
  have HBx : Hid (Bytes w9 (some ⟨gx, 0, none⟩) 128 f.enc) := Lib.hid ⟨RF.enc_len HF.out, RF.enc_lt HF.out, fun _ => ⟨gx, 0, rfl, HasB.lt (B9.out.at (k := gx) (C := En) (T := 45) (by simp)), fun i hi => by
    have := HasB.at (B9.out.at (k := gx) (C := En) (T := 45) (by simp)) (0 + i)
    rw [this, HEn.out]
    have := RF.enc_len HF.out
    simp [u8s, List.getD, show i < f.enc.length by omega]⟩⟩
  have HDx := Lib.hid (rdec_any (some ⟨gx, 0, none⟩) 128 128 f.enc w9 HBx.out (by decide) (by decide) (by decide))
  unfold RF.val at HDx
  rw [← HY.out, decE_enc HF.out] at HDx
  go_wp2_with fail
  refine HDx.out.mono ?_
  rintro e wa ⟨rfl, hb⟩
  have Ba := Lib.hid (B9.out.below hb)
  clear hb B9 HDx HBx
  go_wp2_with (with_reducible refine wpList_store_row rfl 37 (.tmp 12) (.tmp 62) rfl wa.heap.size Y rfl rfl 37 zF (heap_new wa _) HIY.out HOY.out HEY.out ?_; rw [World.setRow_alloc_new]; refine Stop.mk ?_)
  refine Stop.go ?_
  have Bb := Lib.hid (Ba.out.made Y 37)
  generalize wa.alloc (.cells Y 37) = wb at Bb ⊢
  obtain ⟨gy, hgy⟩ : ∃ g, g = wa.heap.size := ⟨_, rfl⟩
  rw [← hgy] at Bb ⊢
  clear hgy Ba
  have HQf : Hid (wb.heap[gf]? = some (.cells C 37 (0, 0))) := Lib.hid (Bb.out.at (by simp))
  have HQy : Hid (wb.heap[gy]? = some (.cells Y 37 (0, 0))) := Lib.hid (Bb.out.at (by simp))
  have hbx : HasB wb gf f.cells.toArray 37 := by rw [← HC.out]; exact HQf.out
  have x1 := RF.tail_at HF.out hbx 1 _ rfl
  have x2 := RF.tail_at HF.out hbx 2 _ rfl
  have x3 := RF.tail_at HF.out hbx 3 _ rfl
  have x4 := RF.tail_at HF.out hbx 4 _ rfl
  clear hbx
  by_cases z0 : (0 : Int) ≤ f.addr
  rotate_left
  · go_wp2_with fail
    rw [HPOST.out]
    exact ⟨rfl, Bb.out.be⟩
  by_cases z1 : f.addr < (65536 : Int)
  rotate_left
  · go_wp2_with fail
    rw [HPOST.out]
    exact ⟨rfl, Bb.out.be⟩
  by_cases z2 : (0 : Int) ≤ f.count
  rotate_left
  · go_wp2_with fail
    rw [HPOST.out]
    exact ⟨rfl, Bb.out.be⟩
  by_cases z3 : f.count < (65536 : Int)
  rotate_left
  · go_wp2_with fail
    rw [HPOST.out]
    exact ⟨rfl, Bb.out.be⟩
  by_cases z4 : (0 : Int) ≤ f.res
  rotate_left
  · go_wp2_with fail
    rw [HPOST.out]
    exact ⟨rfl, Bb.out.be⟩
  by_cases z5 : f.res < (65536 : Int)
  rotate_left
  · go_wp2_with fail
    rw [HPOST.out]
    exact ⟨rfl, Bb.out.be⟩
  by_cases z6 : (0 : Int) ≤ f.typ
  rotate_left
  · go_wp2_with fail
    rw [HPOST.out]
    exact ⟨rfl, Bb.out.be⟩
  by_cases z7 : f.typ < (65536 : Int)
  rotate_left
  · go_wp2_with fail
    rw [HPOST.out]
    exact ⟨rfl, Bb.out.be⟩
  have HSm : Hid (SmallF f) := Lib.hid ⟨⟨z0, z1⟩, ⟨z2, z3⟩, ⟨z4, z5⟩, ⟨z6, z7⟩⟩
  have HYC : Hid (Y = C) := Lib.hid (by rw [HY.out, dec_small HF.out HSm.out, HC.out])
  have heq : ∀ w, (binOp .eql 37 (.agg Y) (.agg C)).run Try.prog w = .ok (.bool true) w := fun w => by rw [HYC.out, HC.out, run_eql_struct, eqFrame f f HF.out HF.out w]; simp
  have hY0 := HEY
  go_wp2_with (with_reducible refine stop_dst 107 rfl ?_)
  refine Stop.go ?_
  refine wpList_wanted (by rfl) (fun K hK => ?_)
  refine wp_load_row 37 (.tmp 12) rfl gy rfl 37 Y (0, 0) _ HQy.out Try.underlying37 rfl HIY.out ?_
  refine hK _ _ ?_
  clear hK K
  refine wpList_wanted (by rfl) (fun K hK => ?_)
  refine wp_load_row 37 (.tmp 3) rfl gf rfl 37 C (0, 0) _ HQf.out Try.underlying37 rfl HIC.out ?_
  refine hK _ _ ?_
  clear hK K
  go_wp2_with fail
  rw [HPOST.out]
  exact ⟨rfl, Bb.out.be⟩
end Go.Proofs.Ytkdjimcpdbpemaa
