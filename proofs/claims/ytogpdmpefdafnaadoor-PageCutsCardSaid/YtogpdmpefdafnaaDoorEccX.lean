/- ecc: MendAll. -/
import Derived.Test.YtogpdmpefdafnaaDoorEccW
namespace Go.Proofs.YtogpdmpefdafnaaDoor
open Go Go.RowKit
set_option linter.unusedVariables false

theorem mendW_lt {x c p q h : Nat} (e : Ecc.mendW x c = (p, q, h)) (hx : x < 18446744073709551616) : p < 18446744073709551616 ∧ h ≤ 2 := by
  unfold Ecc.mendW at e
  split at e
  · cases e; exact ⟨hx, by omega⟩
  · split at e
    · rename_i h1
      have := Prod.ext_iff.1 e
      have h2 := Prod.ext_iff.1 this.2
      simp only at this h2
      refine ⟨?_, by omega⟩
      rw [← this.1]
      exact Nat.xor_lt_two_pow (n := 64) hx (pow64_lt _ h1)
    · split at e
      · cases e; exact ⟨hx, by omega⟩
      · cases e; exact ⟨hx, by omega⟩

theorem mendOne_none2 {x c p q k : Nat} (e : Ecc.mendW x c = (p, q, 2)) : mendOne x c k = none := by unfold mendOne; rw [e]; simp
theorem mendOne_big {x c p q h k : Nat} (e : Ecc.mendW x c = (p, q, h)) (hk : ¬ p < 256 ^ k) : mendOne x c k = none := by unfold mendOne; rw [e]; simp; intro _; omega
theorem mendOne_ok {x c p q h k : Nat} (e : Ecc.mendW x c = (p, q, h)) (h2 : h ≠ 2) (hk : p < 256 ^ k) : mendOne x c k = some (bytesN p k, if h = 1 then 1 else 0) := by
  unfold mendOne; rw [e]; simp only; rw [if_neg (by omega)]

section
variable {P : Program} {ops : Array Oper} {rest : List Oper} {o : Oper} {a : Act} {w : World} {Q : Exit → Act → World → Prop}
/-- 'make([]byte, 0, n)'. -/
theorem wpList_make0_u8 (hw : Region.wanted o (yielded ops a.tmps) = true) (lo co : Operand) (t : TypeId) (hop : o.op = Op.makeSlice t lo co)
    (base : Nat) (e : TypeId) (ht : P.underlying t = some (.slice e)) (hinfo : (P.info? e).map (fun i => (i.zero, i.size, i.bytes)) = some (some (.int .u8 0), 1, 1))
    (n : Nat) (hl : a.eval lo = .int .i64 0) (hc : a.eval co = .int .i64 (n : Int)) (hb : n ≤ 140737488355328) (hbase : base ≤ w.heap.size)
    (hk : ∀ w', w'.ownsRow base e 1 (.slice (some ⟨w.heap.size, 0, none⟩) 0 n) 0 (u8s []) → w.grownBy w' none → wpList P ops Q rest (a.put o.dst (.slice (some ⟨w.heap.size, 0, none⟩) 0 n)) w') :
    wpList P ops Q (o :: rest) a w := by
  obtain ⟨i, hi, hz, hsz, hby⟩ := info_parts hinfo
  refine wpList_wanted hw fun K hK' => ?_
  obtain ⟨w', hrun, r1, r2⟩ := run_make_own (P := P) w base t e i (.int .u8 0) 1 ht hi hz hsz .i64 .i64 n (by rw [hby]; omega) (by unfold maxLen; omega) hbase
  unfold Oper.wp
  simp [execOp, hop, hl, hc, hrun, Result.andThen]
  exact hK' _ _ (hk w' r1 r2)
theorem wpList_load_row_w (hw : Region.wanted o (yielded ops a.tmps) = true) (ty : TypeId) (x : Operand) (ho : o.op = .load ty x)
    (g : Nat) (hx : a.eval x = .pointer (some ⟨g, 0, none⟩)) (t : TypeId) (cs : Array Value) (fr : Nat × Nat) (d : TypeDesc) (hg : w.heap[g]? = some (.cells cs t fr))
    (hu : P.underlying ty = some d) (hd : (match d with | .struct _ | .array _ _ => true | _ => false) = true) (hi : (P.info? ty).map (·.size) = some cs.size)
    (h : wpList P ops Q rest (a.put o.dst (.agg cs)) w) : wpList P ops Q (o :: rest) a w :=
  wpList_wanted hw fun _ hK => wp_load_row ty x ho g hx t cs fr d hg hu hd hi (hK _ _ h)
end

abbrev zero8 : Array Value := #[.int .u8 0, .int .u8 0, .int .u8 0, .int .u8 0, .int .u8 0, .int .u8 0, .int .u8 0, .int .u8 0]
/-- An array of 8 bytes in a variable of its own. -/
theorem boxed8 (w : World) (x : Nat) (t : TypeId) : ((w.alloc (.cells zero8 t)).setRow w.heap.size (arr8 x)).heap[w.heap.size]? = some (.cells (arr8 x) t (0, 0)) ∧ Below w.heap.size w ((w.alloc (.cells zero8 t)).setRow w.heap.size (arr8 x)) :=
  ⟨setRow_heap _ w.heap.size zero8 _ t (0, 0) (heap_alloc_new w _), below_setRow ((Below.refl _ _).alloc (Nat.le_refl _) _) (Nat.le_refl _) _⟩

theorem arr8_one (p : Nat) : (arr8 p).all (·.oneCell') = true := by
  have h := u8s_one (bytesN p 8)
  rw [← arr8_list] at h
  rw [Array.all_eq_true']
  intro x hx
  exact h x (by simpa using hx)
theorem box_bytes {w : World} {g p m : Nat} {t : TypeId} (hg : w.heap[g]? = some (.cells (arr8 p) t (0, 0))) (hm : m ≤ 8) : Bytes w (some ⟨g, 0, none⟩) m (bytesN p m) := by
  refine ⟨bytesN_len _ _, bytesN_lt _ _, fun _ => ⟨g, 0, rfl, ?_, fun i hi => ?_⟩⟩
  · rcases Nat.lt_or_ge g w.heap.size with q | q
    · exact q
    · simp [Array.getElem?_eq_none q] at hg
  · rw [Nat.zero_add, cell_of_row _ _ i _ _ _ hg, bytesN_get _ _ _ hi]
    have h1 : (arr8 p)[i]? = (u8s (bytesN p 8))[i]? := by rw [← arr8_list]; simp
    rw [h1]
    have h2 : i < 8 := by omega
    simp [u8s, bytesN, h2]

theorem nought_z (x k : Nat) (z : Int) (r : Bool) (hz : z = (k : Int)) (hk : k ≤ 8) (hx : x < 18446744073709551616) (hr : decide (x < 256 ^ k) = r) (w : World) :
    Calls Tryd.prog 18 #[.agg (arr8 x), .int .i64 z] w fun e w' => e = .returned (.bool r) ∧ Below w.heap.size w w' := by
  subst hz
  rw [← hr]
  exact nought_any x k hk hx w

/-- What MendAll returns. -/
def MendV (B : Nat) (w' : World) (s : Option (List Nat × Nat)) (e : Ending) : Prop := match s with
  | some (o, n) => ∃ v, e = .returned (.tuple #[v, .int .i64 (n : Int), .bool true]) ∧ FreshB B w' v o
  | none => e = .returned (.tuple #[.slice none 0 0, .int .i64 0, .bool false])

set_option maxRecDepth 100000 in
set_option maxHeartbeats 4000000 in
theorem mendAllB_any (a : Option Addr) (len cap : Nat) (l : List Nat) (a2 : Option Addr) (cl cap2 : Nat) (c : List Nat) (w : World) (hi : Bytes w a len l) (hj : Bytes w a2 cl c) (hl : len ≤ 100000) (hcl : cl ≤ 100000) (hc : len ≤ cap) (hc2 : cl ≤ cap2) (hT : Deb w) :
    Calls Tryd.prog 11 #[.slice a len cap, .slice a2 cl cap2] w fun e w' => MendV w.heap.size w' (mendAllS l c) e ∧ Below w.heap.size w w' := by
  have HIn := Lib.hid hi
  have HIc := Lib.hid hj
  have hll := hi.1
  have hcc := hj.1
  have HT := Lib.hid hT
  clear hi hj hT
  obtain ⟨POST, hPOST⟩ : ∃ Q : Ending → World → Prop, Q = fun e w' => MendV w.heap.size w' (mendAllS l c) e ∧ Below w.heap.size w w' := ⟨_, rfl⟩
  rw [← hPOST]
  have HPOST := Lib.hid hPOST
  clear hPOST
  by_cases hlen : cl = (len + 7) / 8
  · have HAll : Hid (mendAllS l c = mendTo l c cl) := Lib.hid (by unfold mendAllS; rw [hcc, hll, if_pos hlen])
    have t1 : ((cl : Int) == ((len : Int) + 8 - 1) / 8) = true := by simp; omega
    have hcl1 : 8 * cl ≤ len + 7 := by omega
    have hcl2 : len ≤ 8 * cl := by omega
    clear hlen
    go_enter Tryd.func11, Tryd.ntmps11
    go_wp2_with (at_make; refine wpList_make0_u8 rfl _ _ 22 rfl w.heap.size 5 Tryd.underlying22 Tryd.infoU8 len rfl rfl (by omega) (Nat.le_refl _) ?_; intro w1 hown hgrow; have HO1 := Lib.hid hown; have HB1 : Hid (Below w.heap.size w w1) := Lib.hid ((Below.refl _ _).grown hgrow (Nat.le_refl _) (fun k hk => by simp at hk)); clear hown hgrow)
    go_loopw [7, 8, 29] (fun v m i wr => ∃ (k n : Nat) (o : List Nat), k ≤ cl ∧ i = .int .i64 (k : Int) ∧ m = .int .i64 (n : Int) ∧ n ≤ k ∧ Hid (mendTo l c k = some (o, n)) ∧ Hid (wr.ownsRow w.heap.size 5 1 v o.length (u8s o)) ∧ Hid (Below w.heap.size w wr)) (fun _ _ i _ => cl - (intOf i).toNat)
    case atStart => exact ⟨0, 0, [], by omega, rfl, rfl, by omega, Lib.hid (mendTo_zero l c), HO1, HB1⟩
    case round =>
      obtain ⟨k, n, o, hk, rfl, rfl, hn, HM, HO, HB⟩ := hrel
      obtain ⟨wo, rfl⟩ : ∃ wo : World, wo = wr := ⟨_, rfl⟩
      by_cases hlt : k < cl
      · have hx := (HIn.out.below HB.out (Nat.le_refl _))
        have hy := (HIc.out.below HB.out (Nat.le_refl _))
        obtain ⟨b, off, rfl, hbl, hcell⟩ := hx.2.2 (by omega)
        clear hcell
        obtain ⟨b2, off2, rfl, hbl2, hcell2⟩ := hy.2.2 (by omega)
        have hck := hcell2 k (by omega)
        have hd := hx.dropAt (8 * k) (by omega)
        have HD := Lib.hid hd
        have hX := wordAt_lt HIn.out.2.1 k
        have hlast := mendTo_succ l c k
        rw [HM.out, hll] at hlast
        obtain ⟨X, hXe⟩ : ∃ X, X = wordAt l k := ⟨_, rfl⟩
        have HX : Hid (X = le (l.drop (8 * k)) 8) := Lib.hid hXe
        rw [← hXe] at hX hlast
        have hy8 : c.getD k 0 < 256 := by
          have : c.getD k 0 ∈ c := by
            rw [List.getD, List.getElem?_eq_getElem (by omega)]; exact List.getElem_mem _
          exact HIc.out.2.1 _ this
        obtain ⟨Y, hY⟩ : ∃ Y, Y = c.getD k 0 := ⟨_, rfl⟩
        rw [← hY] at hck hy8 hlast
        obtain ⟨p, q, h, em⟩ : ∃ p q h, Ecc.mendW X Y = (p, q, h) := ⟨_, _, _, rfl⟩
        obtain ⟨hp, hh2⟩ := mendW_lt em hX
        have HEm := Lib.hid em
        have hT2 : Deb wo := Deb.below HT.out HB.out (Nat.le_refl _)
        have HT2 := Lib.hid hT2
        have hsz := HB.out.size
        have hol := (mendTo_len k o n HM.out).1
        rw [hll] at hol
        obtain ⟨m, hm⟩ : ∃ m, m = min 8 (len - 8 * k) := ⟨_, rfl⟩
        rw [← hm] at hlast
        have hm8 : m ≤ 8 := by omega
        have hend : mendTo l c (k + 1) = none → mendTo l c cl = none := fun h0 => by
          have := mendTo_none h0 (cl - (k + 1)); rwa [show k + 1 + (cl - (k + 1)) = cl by omega] at this
        have HEnd := Lib.hid hend
        have HLast := Lib.hid hlast
        obtain ⟨k8, hk8⟩ : ∃ k8, k8 = 8 * k := ⟨_, rfl⟩
        have hk8i : (k : Int) * 8 = (k8 : Int) := by omega
        rw [← hk8] at HD HX hm hol
        have t2 : (0 : Int) ≤ (k8 : Int) := by omega
        have t3 : (k8 : Int) ≤ (len : Int) := by omega
        have t4 : ¬ cap = k8 := by omega
        have t5 : (k8 : Int) ≤ (cap : Int) := by omega
        have t6 : (k : Int) < (cl : Int) := by omega
        have HK8 := Lib.hid hk8
        clear hx hy hd hXe hY hT2 hk8 hcell2 em hend hlast
        have HI : Hid ((Tryd.prog.info? 45).map (·.size) = some (arr8 p).size) := Lib.hid info_arr8
        have HOld : Hid (zero8.size = (arr8 p).size) := Lib.hid rfl
        have HOne : Hid ((arr8 p).all (·.oneCell') = true) := Lib.hid (arr8_one p)
        have hcs : (8 ≤ len - k8 ∧ m = 8) ∨ (¬ 8 ≤ len - k8 ∧ m = len - k8) := by omega
        by_cases h2 : h = 2
        · have t8 : ((h : Int) == 2) = true := by simp [h2]
          have hfin : ∀ wz, Below w.heap.size w wz → POST (.returned (.tuple #[.slice none 0 0, .int .i64 0, .bool false])) wz := by
            intro wz hz
            rw [HPOST.out]
            refine ⟨?_, hz⟩
            have h0 : mendTo l c (k + 1) = none := by
              rw [HLast.out, mendOne_none2 (p := p) (q := q) (by rw [← h2]; exact HEm.out), addOn_none']
            rw [HAll.out, HEnd.out h0]
            rfl
          have HFin := Lib.hid hfin
          clear hfin h2 hcs
          go_wp2_with (first | (go_at_call 15; refine (get_any b (off + k8) _ _ _ _ HD.out (by omega)).mono ?_; rintro e w2 ⟨rfl, rfl⟩; rw [← HX.out]) | (go_at_call 16; refine (mend_as HEm.out hX hy8 _ HT2.out).mono ?_; rintro e w2 ⟨rfl, rfl⟩) | (go_at_call 17; refine (put_any p hp _).mono ?_; rintro e w2 ⟨rfl, hb2⟩; have HB2 := Lib.hid hb2; clear hb2) | (with_reducible refine wpList_store_row rfl 45 (.tmp 14) (.tmp 46) rfl w2.heap.size (arr8 p) rfl rfl 45 zero8 (heap_alloc_new w2 _) HI.out HOld.out HOne.out ?_; have hbx := boxed8 w2 p 45; obtain ⟨ws, hws⟩ : ∃ ws, ws = (w2.alloc (.cells zero8 45)).setRow w2.heap.size (arr8 p) := ⟨_, rfl⟩; rw [← hws] at hbx ⊢; have HR8 := Lib.hid hbx.1; have HBs := Lib.hid hbx.2; clear hbx hws))
          all_goals
            go_ret3
            exact HFin.out _ (HB.out.trans (HB2.out.trans (HBs.out.mono HB2.out.size)|>.mono hsz))
        · have t8 : ((h : Int) == 2) = false := by simp; omega
          by_cases hr : p < 256 ^ m
          · obtain ⟨d, hd⟩ : ∃ d, d = if h = 1 then 1 else 0 := ⟨_, rfl⟩
            have hnext : mendTo l c (k + 1) = some (o ++ bytesN p m, n + d) := by
              rw [HLast.out, mendOne_ok HEm.out h2 hr, ← hd]; rfl
            have HNext := Lib.hid hnext
            have hrd : decide (p < 256 ^ m) = true := by simp [hr]
            have HRd := Lib.hid hrd
            have hcs2 : (h = 1 ∧ d = 1) ∨ (¬ h = 1 ∧ d = 0) := by rw [hd]; by_cases q : h = 1 <;> simp [q]
            clear hnext hrd h2 hr hd
            rcases hcs2 with ⟨c1, hd⟩ | ⟨c1, hd⟩
            · have t12 : ((h : Int) == 1) = true := by simp; omega
              clear c1
              rcases hcs with ⟨t9, hm9⟩ | ⟨t9, hm9⟩
              · have t10 : (8 : Int) ≤ (len : Int) - (k8 : Int) := by omega
                have HZ : Hid ((8 : Int) = (m : Int)) := Lib.hid (by omega)
                clear t9 hm9
                go_wp2_with (first | (at_builtin; refine Stop.mk ?_) | (go_at_call 15; refine (get_any b (off + k8) _ _ _ _ HD.out (by omega)).mono ?_; rintro e w2 ⟨rfl, rfl⟩; rw [← HX.out]) | (go_at_call 16; refine (mend_as HEm.out hX hy8 _ HT2.out).mono ?_; rintro e w2 ⟨rfl, rfl⟩) | (go_at_call 17; refine (put_any p hp _).mono ?_; rintro e w2 ⟨rfl, hb2⟩; have HB2 := Lib.hid hb2; clear hb2) | (with_reducible refine wpList_store_row rfl 45 (.tmp 14) (.tmp 46) rfl w2.heap.size (arr8 p) rfl rfl 45 zero8 (heap_alloc_new w2 _) HI.out HOld.out HOne.out ?_; have hbx := boxed8 w2 p 45; obtain ⟨ws, hws⟩ : ∃ ws, ws = (w2.alloc (.cells zero8 45)).setRow w2.heap.size (arr8 p) := ⟨_, rfl⟩; rw [← hws] at hbx ⊢; have HR8 := Lib.hid hbx.1; have HBs := Lib.hid hbx.2; clear hbx hws) | (with_reducible refine wpList_load_row_w rfl 45 (.tmp 14) rfl w2.heap.size rfl 45 (arr8 p) (0, 0) _ HR8.out Tryd.underlying45 rfl HI.out ?_) | (go_at_call 18; refine (nought_z p m _ _ HZ.out hm8 hp HRd.out _).mono ?_; rintro e w3 ⟨rfl, hb3⟩; have HB3 := Lib.hid hb3; clear hb3))
                have hb23 : Below wo.heap.size wo w3 := HB2.out.trans ((HBs.out.trans (HB3.out.mono HBs.out.size)).mono HB2.out.size)
                have ho3 := own_below HO.out hb23 (Nat.le_refl _)
                have hby : Bytes w3 (some ⟨w2.heap.size, 0, none⟩) m (bytesN p m) := box_bytes ((HB3.out.block w2.heap.size (by have := HR8.out; rcases Nat.lt_or_ge w2.heap.size ws.heap.size with q | q; exact q; simp [Array.getElem?_eq_none q] at this)).trans HR8.out) hm8
                have hbw : Below w.heap.size w w3 := HB.out.trans (hb23.mono hsz)
                have hsz3 := hbw.size
                have hnn := HNext.out
                rw [hd] at hnn
                have HNext2 := Lib.hid hnn
                clear hnn
                obtain rfl : m = 8 := by have := HZ.out; omega
                clear hm
                refine Stop.go ?_
                refine wpList_app_u8 rfl _ _ 22 rfl w.heap.size 5 Tryd.underlying22 Tryd.infoU8 u7 o.length o rfl ho3 _ 8 8 (bytesN p 8) rfl hby (fun h => by simp at h) (by omega) (by omega) ?_
                intro v4 w4 hown4 hgrow4
                rw [show o.length + 8 = (o ++ bytesN p 8).length by simp [bytesN_len]] at hown4
                have HO4 := Lib.hid hown4
                have HB4 := Lib.hid (hbw.grown hgrow4 hsz3 (fun j hj => (ho3.lt j hj).1))
                clear hown4 hgrow4 ho3 hb23 hby hbw
                go_wp2
                go_roundw
                case rel => exact ⟨k + 1, n + 1, o ++ bytesN p 8, by omega, by go_num, by go_num, by omega, HNext2, HO4, HB4⟩
                case measure => simp [intOf]; omega
              · have hmi : (len : Int) - (k8 : Int) = (m : Int) := by omega
                have t10 : ¬ ((8 : Int) ≤ (m : Int)) := by omega
                have t11 : ¬ ((8 : Int) ≤ (len : Int) - (k8 : Int)) := by omega
                have t13 : (m : Int) ≤ 8 := by omega
                clear t9 hm9 hm
                go_wp2_with (first | (at_builtin; refine Stop.mk ?_) | (go_at_call 15; refine (get_any b (off + k8) _ _ _ _ HD.out (by omega)).mono ?_; rintro e w2 ⟨rfl, rfl⟩; rw [← HX.out]) | (go_at_call 16; refine (mend_as HEm.out hX hy8 _ HT2.out).mono ?_; rintro e w2 ⟨rfl, rfl⟩) | (go_at_call 17; refine (put_any p hp _).mono ?_; rintro e w2 ⟨rfl, hb2⟩; have HB2 := Lib.hid hb2; clear hb2) | (with_reducible refine wpList_store_row rfl 45 (.tmp 14) (.tmp 46) rfl w2.heap.size (arr8 p) rfl rfl 45 zero8 (heap_alloc_new w2 _) HI.out HOld.out HOne.out ?_; have hbx := boxed8 w2 p 45; obtain ⟨ws, hws⟩ : ∃ ws, ws = (w2.alloc (.cells zero8 45)).setRow w2.heap.size (arr8 p) := ⟨_, rfl⟩; rw [← hws] at hbx ⊢; have HR8 := Lib.hid hbx.1; have HBs := Lib.hid hbx.2; clear hbx hws) | (with_reducible refine wpList_load_row_w rfl 45 (.tmp 14) rfl w2.heap.size rfl 45 (arr8 p) (0, 0) _ HR8.out Tryd.underlying45 rfl HI.out ?_) | (go_at_call 18; refine (nought_z p m _ _ rfl hm8 hp HRd.out _).mono ?_; rintro e w3 ⟨rfl, hb3⟩; have HB3 := Lib.hid hb3; clear hb3))
                have hb23 : Below wo.heap.size wo w3 := HB2.out.trans ((HBs.out.trans (HB3.out.mono HBs.out.size)).mono HB2.out.size)
                have ho3 := own_below HO.out hb23 (Nat.le_refl _)
                have hby : Bytes w3 (some ⟨w2.heap.size, 0, none⟩) m (bytesN p m) := box_bytes ((HB3.out.block w2.heap.size (by have := HR8.out; rcases Nat.lt_or_ge w2.heap.size ws.heap.size with q | q; exact q; simp [Array.getElem?_eq_none q] at this)).trans HR8.out) hm8
                have hbw : Below w.heap.size w w3 := HB.out.trans (hb23.mono hsz)
                have hsz3 := hbw.size
                have hnn := HNext.out
                rw [hd] at hnn
                have HNext2 := Lib.hid hnn
                clear hnn
                refine Stop.go ?_
                refine wpList_app_u8 rfl _ _ 22 rfl w.heap.size 5 Tryd.underlying22 Tryd.infoU8 u7 o.length o rfl ho3 _ m 8 (bytesN p m) rfl hby (fun h => by simp at h) (by omega) (by omega) ?_
                intro v4 w4 hown4 hgrow4
                rw [show o.length + m = (o ++ bytesN p m).length by simp [bytesN_len]] at hown4
                have HO4 := Lib.hid hown4
                have HB4 := Lib.hid (hbw.grown hgrow4 hsz3 (fun j hj => (ho3.lt j hj).1))
                clear hown4 hgrow4 ho3 hb23 hby hbw
                go_wp2
                go_roundw
                case rel => exact ⟨k + 1, n + 1, o ++ bytesN p m, by omega, by go_num, by go_num, by omega, HNext2, HO4, HB4⟩
                case measure => simp [intOf]; omega
            · have t12 : ((h : Int) == 1) = false := by simp; omega
              clear c1
              rcases hcs with ⟨t9, hm9⟩ | ⟨t9, hm9⟩
              · have t10 : (8 : Int) ≤ (len : Int) - (k8 : Int) := by omega
                have HZ : Hid ((8 : Int) = (m : Int)) := Lib.hid (by omega)
                clear t9 hm9
                go_wp2_with (first | (at_builtin; refine Stop.mk ?_) | (go_at_call 15; refine (get_any b (off + k8) _ _ _ _ HD.out (by omega)).mono ?_; rintro e w2 ⟨rfl, rfl⟩; rw [← HX.out]) | (go_at_call 16; refine (mend_as HEm.out hX hy8 _ HT2.out).mono ?_; rintro e w2 ⟨rfl, rfl⟩) | (go_at_call 17; refine (put_any p hp _).mono ?_; rintro e w2 ⟨rfl, hb2⟩; have HB2 := Lib.hid hb2; clear hb2) | (with_reducible refine wpList_store_row rfl 45 (.tmp 14) (.tmp 46) rfl w2.heap.size (arr8 p) rfl rfl 45 zero8 (heap_alloc_new w2 _) HI.out HOld.out HOne.out ?_; have hbx := boxed8 w2 p 45; obtain ⟨ws, hws⟩ : ∃ ws, ws = (w2.alloc (.cells zero8 45)).setRow w2.heap.size (arr8 p) := ⟨_, rfl⟩; rw [← hws] at hbx ⊢; have HR8 := Lib.hid hbx.1; have HBs := Lib.hid hbx.2; clear hbx hws) | (with_reducible refine wpList_load_row_w rfl 45 (.tmp 14) rfl w2.heap.size rfl 45 (arr8 p) (0, 0) _ HR8.out Tryd.underlying45 rfl HI.out ?_) | (go_at_call 18; refine (nought_z p m _ _ HZ.out hm8 hp HRd.out _).mono ?_; rintro e w3 ⟨rfl, hb3⟩; have HB3 := Lib.hid hb3; clear hb3))
                have hb23 : Below wo.heap.size wo w3 := HB2.out.trans ((HBs.out.trans (HB3.out.mono HBs.out.size)).mono HB2.out.size)
                have ho3 := own_below HO.out hb23 (Nat.le_refl _)
                have hby : Bytes w3 (some ⟨w2.heap.size, 0, none⟩) m (bytesN p m) := box_bytes ((HB3.out.block w2.heap.size (by have := HR8.out; rcases Nat.lt_or_ge w2.heap.size ws.heap.size with q | q; exact q; simp [Array.getElem?_eq_none q] at this)).trans HR8.out) hm8
                have hbw : Below w.heap.size w w3 := HB.out.trans (hb23.mono hsz)
                have hsz3 := hbw.size
                have hnn := HNext.out
                rw [hd] at hnn
                have HNext2 := Lib.hid hnn
                clear hnn
                obtain rfl : m = 8 := by have := HZ.out; omega
                clear hm
                refine Stop.go ?_
                refine wpList_app_u8 rfl _ _ 22 rfl w.heap.size 5 Tryd.underlying22 Tryd.infoU8 u7 o.length o rfl ho3 _ 8 8 (bytesN p 8) rfl hby (fun h => by simp at h) (by omega) (by omega) ?_
                intro v4 w4 hown4 hgrow4
                rw [show o.length + 8 = (o ++ bytesN p 8).length by simp [bytesN_len]] at hown4
                have HO4 := Lib.hid hown4
                have HB4 := Lib.hid (hbw.grown hgrow4 hsz3 (fun j hj => (ho3.lt j hj).1))
                clear hown4 hgrow4 ho3 hb23 hby hbw
                go_wp2
                go_roundw
                case rel => exact ⟨k + 1, n + 0, o ++ bytesN p 8, by omega, by go_num, by go_num, by omega, HNext2, HO4, HB4⟩
                case measure => simp [intOf]; omega
              · have hmi : (len : Int) - (k8 : Int) = (m : Int) := by omega
                have t10 : ¬ ((8 : Int) ≤ (m : Int)) := by omega
                have t11 : ¬ ((8 : Int) ≤ (len : Int) - (k8 : Int)) := by omega
                have t13 : (m : Int) ≤ 8 := by omega
                clear t9 hm9 hm
                go_wp2_with (first | (at_builtin; refine Stop.mk ?_) | (go_at_call 15; refine (get_any b (off + k8) _ _ _ _ HD.out (by omega)).mono ?_; rintro e w2 ⟨rfl, rfl⟩; rw [← HX.out]) | (go_at_call 16; refine (mend_as HEm.out hX hy8 _ HT2.out).mono ?_; rintro e w2 ⟨rfl, rfl⟩) | (go_at_call 17; refine (put_any p hp _).mono ?_; rintro e w2 ⟨rfl, hb2⟩; have HB2 := Lib.hid hb2; clear hb2) | (with_reducible refine wpList_store_row rfl 45 (.tmp 14) (.tmp 46) rfl w2.heap.size (arr8 p) rfl rfl 45 zero8 (heap_alloc_new w2 _) HI.out HOld.out HOne.out ?_; have hbx := boxed8 w2 p 45; obtain ⟨ws, hws⟩ : ∃ ws, ws = (w2.alloc (.cells zero8 45)).setRow w2.heap.size (arr8 p) := ⟨_, rfl⟩; rw [← hws] at hbx ⊢; have HR8 := Lib.hid hbx.1; have HBs := Lib.hid hbx.2; clear hbx hws) | (with_reducible refine wpList_load_row_w rfl 45 (.tmp 14) rfl w2.heap.size rfl 45 (arr8 p) (0, 0) _ HR8.out Tryd.underlying45 rfl HI.out ?_) | (go_at_call 18; refine (nought_z p m _ _ rfl hm8 hp HRd.out _).mono ?_; rintro e w3 ⟨rfl, hb3⟩; have HB3 := Lib.hid hb3; clear hb3))
                have hb23 : Below wo.heap.size wo w3 := HB2.out.trans ((HBs.out.trans (HB3.out.mono HBs.out.size)).mono HB2.out.size)
                have ho3 := own_below HO.out hb23 (Nat.le_refl _)
                have hby : Bytes w3 (some ⟨w2.heap.size, 0, none⟩) m (bytesN p m) := box_bytes ((HB3.out.block w2.heap.size (by have := HR8.out; rcases Nat.lt_or_ge w2.heap.size ws.heap.size with q | q; exact q; simp [Array.getElem?_eq_none q] at this)).trans HR8.out) hm8
                have hbw : Below w.heap.size w w3 := HB.out.trans (hb23.mono hsz)
                have hsz3 := hbw.size
                have hnn := HNext.out
                rw [hd] at hnn
                have HNext2 := Lib.hid hnn
                clear hnn
                refine Stop.go ?_
                refine wpList_app_u8 rfl _ _ 22 rfl w.heap.size 5 Tryd.underlying22 Tryd.infoU8 u7 o.length o rfl ho3 _ m 8 (bytesN p m) rfl hby (fun h => by simp at h) (by omega) (by omega) ?_
                intro v4 w4 hown4 hgrow4
                rw [show o.length + m = (o ++ bytesN p m).length by simp [bytesN_len]] at hown4
                have HO4 := Lib.hid hown4
                have HB4 := Lib.hid (hbw.grown hgrow4 hsz3 (fun j hj => (ho3.lt j hj).1))
                clear hown4 hgrow4 ho3 hb23 hby hbw
                go_wp2
                go_roundw
                case rel => exact ⟨k + 1, n + 0, o ++ bytesN p m, by omega, by go_num, by go_num, by omega, HNext2, HO4, HB4⟩
                case measure => simp [intOf]; omega
          · have hfin : ∀ wz, Below w.heap.size w wz → POST (.returned (.tuple #[.slice none 0 0, .int .i64 0, .bool false])) wz := by
              intro wz hz
              rw [HPOST.out]
              refine ⟨?_, hz⟩
              have h0 : mendTo l c (k + 1) = none := by
                rw [HLast.out, mendOne_big HEm.out hr, addOn_none']
              rw [HAll.out, HEnd.out h0]
              rfl
            have HFin := Lib.hid hfin
            have hrd : decide (p < 256 ^ m) = false := by simp [hr]
            have HRd := Lib.hid hrd
            clear hfin h2 hrd hr
            rcases hcs with ⟨t9, hm9⟩ | ⟨t9, hm9⟩
            · have t10 : (8 : Int) ≤ (len : Int) - (k8 : Int) := by omega
              have HZ : Hid ((8 : Int) = (m : Int)) := Lib.hid (by omega)
              clear t9 hm9
              go_wp2_with (first | (go_at_call 15; refine (get_any b (off + k8) _ _ _ _ HD.out (by omega)).mono ?_; rintro e w2 ⟨rfl, rfl⟩; rw [← HX.out]) | (go_at_call 16; refine (mend_as HEm.out hX hy8 _ HT2.out).mono ?_; rintro e w2 ⟨rfl, rfl⟩) | (go_at_call 17; refine (put_any p hp _).mono ?_; rintro e w2 ⟨rfl, hb2⟩; have HB2 := Lib.hid hb2; clear hb2) | (with_reducible refine wpList_store_row rfl 45 (.tmp 14) (.tmp 46) rfl w2.heap.size (arr8 p) rfl rfl 45 zero8 (heap_alloc_new w2 _) HI.out HOld.out HOne.out ?_; have hbx := boxed8 w2 p 45; obtain ⟨ws, hws⟩ : ∃ ws, ws = (w2.alloc (.cells zero8 45)).setRow w2.heap.size (arr8 p) := ⟨_, rfl⟩; rw [← hws] at hbx ⊢; have HR8 := Lib.hid hbx.1; have HBs := Lib.hid hbx.2; clear hbx hws) | (with_reducible refine wpList_load_row_w rfl 45 (.tmp 14) rfl w2.heap.size rfl 45 (arr8 p) (0, 0) _ HR8.out Tryd.underlying45 rfl HI.out ?_) | (go_at_call 18; refine (nought_z p m _ _ HZ.out hm8 hp HRd.out _).mono ?_; rintro e w3 ⟨rfl, hb3⟩; have HB3 := Lib.hid hb3; clear hb3))
              go_ret3
              exact HFin.out _ (HB.out.trans (HB2.out.trans ((HBs.out.trans (HB3.out.mono HBs.out.size)).mono HB2.out.size) |>.mono hsz))
            · have hmi : (len : Int) - (k8 : Int) = (m : Int) := by omega
              have t10 : ¬ ((8 : Int) ≤ (m : Int)) := by omega
              have t11 : ¬ ((8 : Int) ≤ (len : Int) - (k8 : Int)) := by omega
              have HZ : Hid ((m : Int) = (m : Int)) := Lib.hid rfl
              clear t9 hm9 hm
              go_wp2_with (first | (go_at_call 15; refine (get_any b (off + k8) _ _ _ _ HD.out (by omega)).mono ?_; rintro e w2 ⟨rfl, rfl⟩; rw [← HX.out]) | (go_at_call 16; refine (mend_as HEm.out hX hy8 _ HT2.out).mono ?_; rintro e w2 ⟨rfl, rfl⟩) | (go_at_call 17; refine (put_any p hp _).mono ?_; rintro e w2 ⟨rfl, hb2⟩; have HB2 := Lib.hid hb2; clear hb2) | (with_reducible refine wpList_store_row rfl 45 (.tmp 14) (.tmp 46) rfl w2.heap.size (arr8 p) rfl rfl 45 zero8 (heap_alloc_new w2 _) HI.out HOld.out HOne.out ?_; have hbx := boxed8 w2 p 45; obtain ⟨ws, hws⟩ : ∃ ws, ws = (w2.alloc (.cells zero8 45)).setRow w2.heap.size (arr8 p) := ⟨_, rfl⟩; rw [← hws] at hbx ⊢; have HR8 := Lib.hid hbx.1; have HBs := Lib.hid hbx.2; clear hbx hws) | (with_reducible refine wpList_load_row_w rfl 45 (.tmp 14) rfl w2.heap.size rfl 45 (arr8 p) (0, 0) _ HR8.out Tryd.underlying45 rfl HI.out ?_) | (go_at_call 18; refine (nought_z p m _ _ rfl hm8 hp HRd.out _).mono ?_; rintro e w3 ⟨rfl, hb3⟩; have HB3 := Lib.hid hb3; clear hb3))
              go_ret3
              exact HFin.out _ (HB.out.trans (HB2.out.trans ((HBs.out.trans (HB3.out.mono HBs.out.size)).mono HB2.out.size) |>.mono hsz))
      · obtain rfl : k = cl := by omega
        have hlt2 : ¬ ((k : Int) < (k : Int)) := by omega
        have hfin : POST (.returned (.tuple #[u7, .int .i64 (n : Int), .bool true])) wo := by
          rw [HPOST.out]
          refine ⟨?_, HB.out⟩
          rw [HAll.out, HM.out]
          exact ⟨u7, rfl, FreshB.of_own HO.out (mendTo_len k o n HM.out).2.2⟩
        have HFin := Lib.hid hfin
        clear hfin hcl1 hcl2
        go_wp2
        go_ret3
        exact HFin.out
  · have t1 : ((cl : Int) == ((len : Int) + 8 - 1) / 8) = false := by simp; omega
    have hfin : POST (.returned (.tuple #[.slice none 0 0, .int .i64 0, .bool false])) w := by
      rw [HPOST.out]
      refine ⟨?_, Below.refl _ _⟩
      unfold mendAllS
      rw [hcc, hll, if_neg hlen]
      rfl
    have HFin := Lib.hid hfin
    clear hfin hlen
    go_enter Tryd.func11, Tryd.ntmps11
    go_wp2_with fail
    go_ret3
    exact HFin.out

end Go.Proofs.YtogpdmpefdafnaaDoor
