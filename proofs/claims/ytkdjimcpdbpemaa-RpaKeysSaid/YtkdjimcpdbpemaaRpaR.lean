/- rpa: RpaKeys: the walk. -/
import Derived.Test.YtkdjimcpdbpemaaRpaP
namespace Go.Proofs.Ytkdjimcpdbpemaa
open Go Go.RowKit
set_option linter.unusedVariables false

theorem answer_zeroK (x : Int) (w : World) : Calls Try.prog 24 #[.int .i64 x] w fun e w' => e = .returned (.tuple #[.agg (u8s (List.replicate 64 0)).toArray, .bool true]) ∧ Below w.heap.size w w' := by
  obtain ⟨POST, hPOST⟩ : ∃ Q : Ending → World → Prop, Q = fun e w' => e = .returned (.tuple #[.agg zD64, .bool true]) ∧ Below w.heap.size w w' := ⟨_, rfl⟩
  show Calls _ _ _ _ (fun e w' => e = .returned (.tuple #[.agg zD64, .bool true]) ∧ Below w.heap.size w w')
  rw [← hPOST]
  have HPOST := Lib.hid hPOST
  clear hPOST
  go_enter Try.func24, Try.ntmps24
  go_wp2_with (with_reducible refine stop_store 2 _ _ rfl ?_)
  refine Stop.go ?_
  refine wpList_store_row rfl 34 (.tmp 2) (.tmp 4) rfl w.heap.size zD64 rfl rfl 34 _ (heap_new w _) (by kernel_rfl) (by kernel_rfl) (by kernel_rfl) ?_
  rw [World.setRow_alloc_new]
  go_wp2_with fail
  rw [HPOST.out]
  exact bodyPost_ret (results_cell_tmp (p := 2) (q := 3) (by kernel_rfl) _ _ w.heap.size 34 zD64 (0, 0) _ rfl (heap_new w _) Try.underlying34 rfl (by kernel_rfl) _ rfl) rfl ⟨rfl, (Below.refl _ _).alloc (Nat.le_refl _) _⟩
theorem KnS.sub {w0 w : World} {g : Nat} {A : RA} {bs bs' : List (Nat × Array Value × TypeId)} (h : KnS w0 w g A bs) (hs : ∀ b ∈ bs', b ∈ bs) : KnS w0 w g A bs' := ⟨h.be, h.lg, h.area, h.ok, fun b hb => h.box b (hs b hb)⟩
/-- What a question and its step do to what lasts. -/
theorem keys_step (A : RA) (f : RF) (hfd : f.data.length = 64) (ok : Bool) :
    ((A.askStep f).key = true → A.s.has = false ∧ (A.askStep f).write = false ∧ (A.askStep f).data.take 32 = f.data.take 32) ∧ ((A.askStep f).write = true → A.s.has = true) ∧
    ((A.ask f).done (A.askStep f) ok).s.has = (A.s.has || ((A.askStep f).key && ok)) ∧
    ((A.ask f).done (A.askStep f) ok).s.key = (if ((A.askStep f).key && ok) = true then (A.askStep f).data.take 32 else A.s.key) := by
  by_cases h1 : f.typ = 1
  · cases hh : A.s.has with
    | true =>
      have e : A.askStep f = RP.zero := by unfold RA.askStep; rw [if_pos h1, hh]; rfl
      rw [e]
      have ed : (A.ask f).done RP.zero ok = A.ask f := by unfold RA.done; rw [if_pos (.inr rfl)]
      rw [ed]
      refine ⟨by simp [RP.zero], by simp [RP.zero], ?_, ?_⟩
      · show A.s.has = _; rw [hh]; rfl
      · show A.s.key = _; rw [if_neg (by simp [RP.zero])]
    | false =>
      have e : A.askStep f = ⟨true, false, 0, f.data.take 32 ++ List.replicate 32 0⟩ := by unfold RA.askStep; rw [if_pos h1, hh]; rfl
      have en : (A.ask f).now = .keying 0 := by show A.askNow f = _; unfold RA.askNow; rw [if_pos h1, hh]; rfl
      have es : (A.ask f).step = A.askStep f := rfl
      have hz : A.askStep f ≠ RP.zero := by rw [e]; intro q; have := congrArg RP.key q; simp [RP.zero] at this
      have ed : (A.ask f).done (A.askStep f) ok = { A.ask f with step := RP.zero, s := if ok then { (A.ask f).s with key := (A.askStep f).data.take 32, has := true } else (A.ask f).s, now := .keying (if ok then 0 else 6), last := .keying (if ok then 0 else 6) } := by
        unfold RA.done
        rw [if_neg (by rw [es]; exact fun q => q.elim (fun q => q rfl) hz), en]
      rw [ed]
      have ek : (A.askStep f).key = true := by rw [e]
      have ew : (A.askStep f).write = false := by rw [e]
      refine ⟨fun _ => ⟨rfl, ew, ?_⟩, fun q => (by rw [ew] at q; cases q), ?_, ?_⟩
      · rw [e]
        show (f.data.take 32 ++ List.replicate 32 0).take 32 = _
        rw [List.take_append_of_le_length (by rw [List.length_take]; omega), List.take_take, Nat.min_self]
      · rw [ek]
        cases ok
        · show A.s.has = _; rw [hh]; rfl
        · rfl
      · rw [ek]
        cases ok <;> rfl
  · by_cases h3 : f.typ = 3 ∧ A.refuse f = 0
    · have e : A.askStep f = ⟨false, true, f.addr, f.data⟩ := by unfold RA.askStep; rw [if_neg h1, if_pos h3.1, if_pos h3.2]
      have en : (A.ask f).now = .writing 0 f.addr := by show A.askNow f = _; unfold RA.askNow; rw [if_neg h1, if_pos h3.1, h3.2]
      have es : (A.ask f).step = A.askStep f := rfl
      have hh : A.s.has = true := by
        cases hh : A.s.has with
        | true => rfl
        | false => have := h3.2; unfold RA.refuse at this; rw [if_pos hh] at this; cases this
      have hz : A.askStep f ≠ RP.zero := by rw [e]; intro q; have := congrArg RP.write q; simp [RP.zero] at this
      have ed : (A.ask f).done (A.askStep f) ok = { A.ask f with step := RP.zero, s := if ok then { (A.ask f).s with ctr := ((A.ask f).s.ctr + 1) % 4294967296 } else (A.ask f).s, now := .writing (if ok then 0 else 6) f.addr, last := .writing (if ok then 0 else 6) f.addr } := by
        unfold RA.done
        rw [if_neg (by rw [es]; exact fun q => q.elim (fun q => q rfl) hz), en]
      rw [ed]
      have ek : (A.askStep f).key = false := by rw [e]
      refine ⟨fun q => (by rw [ek] at q; cases q), fun _ => hh, ?_, ?_⟩
      · rw [ek]
        cases ok <;> (show A.s.has = _; simp)
      · rw [ek]
        cases ok <;> rfl
    · have e : A.askStep f = RP.zero := by
        unfold RA.askStep
        rw [if_neg h1]
        by_cases h : f.typ = 3
        · rw [if_pos h, if_neg (fun q => h3 ⟨h, q⟩)]
        · rw [if_neg h]
      rw [e]
      have ed : (A.ask f).done RP.zero ok = A.ask f := by unfold RA.done; rw [if_pos (.inr rfl)]
      rw [ed]
      refine ⟨by simp [RP.zero], by simp [RP.zero], ?_, ?_⟩
      · show A.s.has = _; simp [RP.zero]
      · show A.s.key = _; rw [if_neg (by simp [RP.zero])]
/-- Without a key nothing is signed. -/
theorem keyless_tag {A : RA} (h : A.s.has = false) (d : List Nat) (ok : Bool) : (A.answer d ok).tag = List.replicate 32 0 := by
  unfold RA.answer
  cases A.now with
  | none => rfl
  | keying r => rfl
  | writing r a => show (A.signed _).tag = _; unfold RA.signed; rw [h]; rfl
  | counting n => show (if A.s.has = false then _ else _ : RF).tag = _; rw [if_pos h]; rfl
  | reading n a => show (A.readF n a d ok).tag = _; unfold RA.readF; rw [if_pos h]; rfl
  | other k => rfl
theorem take_set {α : Type} (d o : List α) (j : Nat) (x : α) (hj : j < o.length) (hd : d[j]? = some x) : (d.take j ++ o.drop j).set j x = d.take (j + 1) ++ o.drop (j + 1) := by
  have hjd : j < d.length := (List.getElem?_eq_some_iff.1 hd).1
  have hx : d[j] = x := (List.getElem?_eq_some_iff.1 hd).2
  rw [List.set_append_right _ _ (by rw [List.length_take]; omega), List.length_take, Nat.min_eq_left (by omega), Nat.sub_self, List.drop_eq_getElem_cons hj, List.set_cons_zero, List.take_succ_eq_append_getElem hjd, hx]
  simp
theorem neq_zero32 : ∀ w, (Op.equalIn 10000 33 (.agg (u8s (List.replicate 32 0)).toArray) (.agg #[Value.int .u8 0, Value.int .u8 0, Value.int .u8 0, Value.int .u8 0, Value.int .u8 0, Value.int .u8 0, Value.int .u8 0, Value.int .u8 0, Value.int .u8 0, Value.int .u8 0, Value.int .u8 0, Value.int .u8 0, Value.int .u8 0, Value.int .u8 0, Value.int .u8 0, Value.int .u8 0, Value.int .u8 0, Value.int .u8 0, Value.int .u8 0, Value.int .u8 0, Value.int .u8 0, Value.int .u8 0, Value.int .u8 0, Value.int .u8 0, Value.int .u8 0, Value.int .u8 0, Value.int .u8 0, Value.int .u8 0, Value.int .u8 0, Value.int .u8 0, Value.int .u8 0, Value.int .u8 0])).run Try.prog w = .ok true w := fun w => equalIn_u8s 9998 33 32 Try.underlying33 (l := List.replicate 32 0) (r := List.replicate 32 0) (by decide) (by decide) rfl rfl w
theorem zero_cells34 : RS.zero.cells.toArray = #[Value.int .u8 0, Value.int .u8 0, Value.int .u8 0, Value.int .u8 0, Value.int .u8 0, Value.int .u8 0, Value.int .u8 0, Value.int .u8 0, Value.int .u8 0, Value.int .u8 0, Value.int .u8 0, Value.int .u8 0, Value.int .u8 0, Value.int .u8 0, Value.int .u8 0, Value.int .u8 0, Value.int .u8 0, Value.int .u8 0, Value.int .u8 0, Value.int .u8 0, Value.int .u8 0, Value.int .u8 0, Value.int .u8 0, Value.int .u8 0, Value.int .u8 0, Value.int .u8 0, Value.int .u8 0, Value.int .u8 0, Value.int .u8 0, Value.int .u8 0, Value.int .u8 0, Value.int .u8 0, .bool false, .int .u32 0] := rfl

set_option maxRecDepth 100000 in
set_option maxHeartbeats 8000000 in
theorem keys_any (a : Option Addr) (n cap : Nat) (xs : List RAk) (w : World) (hl : Rws 220 (fun x : RAk => x.1.cells) w a n xs) :
    Calls Try.prog 7 #[.slice a n cap] w fun e w' => e = .returned (.bool true) ∧ Below w.heap.size w w' := by
  obtain ⟨POST, hPOST⟩ : ∃ Q : Ending → World → Prop, Q = fun e w' => e = .returned (.bool true) ∧ Below w.heap.size w w' := ⟨_, rfl⟩
  rw [← hPOST]
  have HPOST := Lib.hid hPOST
  have HL0 := Lib.hid hl
  have hnew := fun w => new_zero 8 w (by decide)
  unfold RS.val at hnew
  rw [zero_cells34] at hnew
  have HNew := Lib.hid hnew
  clear hPOST hl hnew
  go_enter Try.func7, Try.ntmps7
  go_wp2_with fail
  refine (known_any w).mono ?_
  rintro e w2 ⟨rfl, hb⟩
  have HB2 := Lib.hid hb
  clear hb
  by_cases h80 : 80 < n
  · have t80 : (80 : Int) < (n : Int) := by omega
    go_wp2_with fail
    rw [HPOST.out]
    exact ⟨rfl, HB2.out⟩
  have t80 : ¬ (80 : Int) < (n : Int) := by omega
  have hn80 : n ≤ 80 := by omega
  clear h80
  go_wp2_with fail
  refine (HNew.out w2).mono ?_
  rintro e w3 ⟨g, rfl, hge, hA, hb⟩
  have H3 : Hid (KnS w w3 g (RA.new 8 RS.zero) []) := Lib.hid ⟨HB2.out.trans (hb.mono HB2.out.size), Nat.le_trans HB2.out.size hge, hA, RA.new_ok (by decide) RS.zero_ok, by simp⟩
  clear hb hA hge HB2
  go_wp2_with fail
  have H4 : Hid (KnS w (w3.alloc (.cells #[Value.int .u8 0, Value.int .u8 0, Value.int .u8 0, Value.int .u8 0, Value.int .u8 0, Value.int .u8 0, Value.int .u8 0, Value.int .u8 0, Value.int .u8 0, Value.int .u8 0, Value.int .u8 0, Value.int .u8 0, Value.int .u8 0, Value.int .u8 0, Value.int .u8 0, Value.int .u8 0, Value.int .u8 0, Value.int .u8 0, Value.int .u8 0, Value.int .u8 0, Value.int .u8 0, Value.int .u8 0, Value.int .u8 0, Value.int .u8 0, Value.int .u8 0, Value.int .u8 0, Value.int .u8 0, Value.int .u8 0, Value.int .u8 0, Value.int .u8 0, Value.int .u8 0, Value.int .u8 0] 22)) g (RA.new 8 RS.zero) [(w3.heap.size, (u8s (RA.new 8 RS.zero).s.key).toArray, 22)]) := Lib.hid (H3.out.made (u8s (RA.new 8 RS.zero).s.key).toArray 22)
  generalize w3.alloc (.cells #[Value.int .u8 0, Value.int .u8 0, Value.int .u8 0, Value.int .u8 0, Value.int .u8 0, Value.int .u8 0, Value.int .u8 0, Value.int .u8 0, Value.int .u8 0, Value.int .u8 0, Value.int .u8 0, Value.int .u8 0, Value.int .u8 0, Value.int .u8 0, Value.int .u8 0, Value.int .u8 0, Value.int .u8 0, Value.int .u8 0, Value.int .u8 0, Value.int .u8 0, Value.int .u8 0, Value.int .u8 0, Value.int .u8 0, Value.int .u8 0, Value.int .u8 0, Value.int .u8 0, Value.int .u8 0, Value.int .u8 0, Value.int .u8 0, Value.int .u8 0, Value.int .u8 0, Value.int .u8 0] 22) = w4 at H4 ⊢
  obtain ⟨gk, hgk⟩ : ∃ gk, gk = w3.heap.size := ⟨_, rfl⟩
  rw [← hgk] at H4 ⊢
  clear hgk H3
  go_loopw [6, 7] (fun h i wr => ∃ k : Nat, ∃ b : Bool, k ≤ n ∧ h = .bool b ∧ i = .int .i64 (k : Int) ∧ Hid (∃ A, KnS w wr g A [(gk, (u8s A.s.key).toArray, 22)] ∧ A.s.has = b)) (fun _ i _ => n - (intOf i).toNat)
  case atStart => exact ⟨0, false, by omega, rfl, rfl, Lib.hid ⟨_, H4.out, rfl⟩⟩
  case round =>
    obtain ⟨k, hb, hk, rfl, rfl, HI⟩ := hrel
    obtain ⟨wo, rfl⟩ : ∃ wo : World, wo = wr := ⟨_, rfl⟩
    by_cases hlt : k < n
    · obtain ⟨A, hKn, hhs⟩ := HI.out
      have H4 := Lib.hid hKn
      have HHs := Lib.hid hhs
      have HAk := Lib.hid hKn.ok
      have hkl : k < xs.length := by rw [HL0.out.1]; exact hlt
      obtain ⟨z, hz⟩ : ∃ z, xs[k]? = some z := ⟨_, List.getElem?_eq_getElem hkl⟩
      obtain ⟨b, off, rfl, hbl, _⟩ := HL0.out.2 (by omega)
      have hrg := fun wr hb => HL0.out.range (wr := wr) hb hlt hz (RAct.len z.2)
      obtain ⟨z0, hz0⟩ := z
      have hr1 : ∀ w', Below w.heap.size w w' → w'.rangeAt b (off + k * 220) z0.cells := hrg
      clear hrg
      obtain ⟨f0, zsign, zother, zstep, zagain, zdone, zok, zdata, zblind, zsilent⟩ := z0
      have hf0 : f0.Ok := hz0.f
      have HRg : Hid (wo.rangeAt b (off + k * 220) f0.cells) := Lib.hid (fun j v hv => hr1 wo hKn.be j v (by rw [RAct.cells, List.getElem?_append_left ((List.getElem?_eq_some_iff.1 hv).1)]; exact hv))
      have HOkc : Hid (∀ w', Below w.heap.size w w' → w'.cell? ⟨b, off + k * 220 + 153, none⟩ = some (.bool zok)) := Lib.hid (fun w' hb => hr1 w' hb 153 _ (by
        have e : ∀ X : List Value, X.length = 36 → (f0.cells ++ (X ++ ([.bool zok] ++ (u8s zdata ++ ([.bool zblind] ++ [.bool zsilent])))))[153]? = some (.bool zok) := fun X hX => by
          rw [List.getElem?_append_right (by rw [RF.cells_len hf0]; decide), RF.cells_len hf0, List.getElem?_append_right (by rw [hX]; decide), hX]; rfl
        have := e ([.int .i64 zsign] ++ (u8s zother ++ ([.int .i64 zstep] ++ ([.bool zagain] ++ [.bool zdone])))) (by have := hz0.ol; simp only [List.length_append, u8s_len, List.length_cons, List.length_nil]; simp only at this; omega)
        simpa [RAct.cells, List.append_assoc] using this))
      have hask := fun w h => ask_any A f0 g w h hKn.ok hf0
      have hAo := RA.ask_ok hKn.ok hf0
      have HAo := Lib.hid hAo
      have hPo : (A.askStep f0).Ok := hAo.step
      have HPo := Lib.hid hPo
      unfold RF.val RP.val at hask
      obtain ⟨C0, hC0⟩ : ∃ N, N = (f0 : RF).cells.toArray := ⟨_, rfl⟩
      have HIC0 : Hid ((Try.prog.info? 37).map (·.size) = some C0.size) := Lib.hid (by rw [hC0]; exact info_f hf0)
      have HOC0 : Hid (zF.size = C0.size) := Lib.hid (by rw [hC0]; exact old_f hf0)
      have HEC0 : Hid (C0.all (·.oneCell') = true) := Lib.hid (by rw [hC0]; exact RF.one _)
      have HC0 := Lib.hid hC0
      obtain ⟨PS, hPS⟩ : ∃ N, N = (A.askStep f0 : RP).cells.toArray := ⟨_, rfl⟩
      have HIPS : Hid ((Try.prog.info? 43).map (·.size) = some PS.size) := Lib.hid (by rw [hPS]; exact info_p hPo)
      have HOPS : Hid (zP.size = PS.size) := Lib.hid (by rw [hPS]; exact old_p hPo)
      have HEPS : Hid (PS.all (·.oneCell') = true) := Lib.hid (by rw [hPS]; exact RP.one _)
      have HPS := Lib.hid hPS
      rw [← hC0, ← hPS] at hask
      have HAsk := Lib.hid hask
      have HFo := Lib.hid hf0
      have HI0 : Hid ((Try.prog.info? 37).map (·.size) = some f0.cells.length) := Lib.hid (by rw [RF.cells_len hf0]; exact info_fr)
      have hlk : (k : Int) < (n : Int) := by omega
      have hk0 : (0 : Int) ≤ (k : Int) := by omega
      have hkn : ((k : Int)).toNat = k := by omega
      have hks := keys_step A f0 hf0.dl zok
      have HKs1 := Lib.hid hks.1
      have HKs2 := Lib.hid hks.2.1
      have HGk : Hid (gk < wo.heap.size) := Lib.hid (HasB.lt (hKn.at List.mem_cons_self))
      clear HI hKn hhs hask hAo hPo hf0 hz hbl hr1 hC0 hPS hks hz0
      go_wp2_with (with_reducible refine stop_dst 39 rfl ?_)
      refine Stop.go ?_
      refine wpList_load_mid rfl 37 (.tmp 38) rfl b (off + k * 220) rfl f0.cells _ HRg.out Try.underlying37 rfl HI0.out ?_
      rw [← HC0.out]
      go_wp2_with (first | (with_reducible refine wpList_store_row rfl 37 (.tmp 8) (.tmp 39) rfl wo.heap.size C0 rfl rfl 37 zF (heap_new wo _) HIC0.out HOC0.out HEC0.out ?_; rw [World.setRow_alloc_new]; refine Stop.mk ?_))
      refine Stop.go ?_
      have H5 : Hid (KnS w (wo.alloc (.cells C0 37)) g A [(wo.heap.size, C0, 37), (gk, (u8s A.s.key).toArray, 22)]) := Lib.hid (H4.out.made C0 _)
      generalize wo.alloc (.cells C0 37) = w5 at H5 ⊢
      obtain ⟨gf, hgf⟩ : ∃ g, g = wo.heap.size := ⟨_, rfl⟩
      rw [← hgf] at H5 ⊢
      have HGf : Hid (gf ≠ gk) := Lib.hid (by have := HGk.out; omega)
      clear hgf H4
      have HQ5 : Hid (w5.heap[gf]? = some (.cells C0 37 (0, 0))) := Lib.hid (H5.out.at (by simp))
      go_wp2_with (with_reducible refine wpList_load_row rfl 37 (.tmp 8) rfl gf rfl 37 C0 (0, 0) _ HQ5.out Try.underlying37 rfl HIC0.out ?_)
      refine (HAsk.out w5 H5.out.area).mono ?_
      rintro e w6 ⟨rfl, hA9, hg9⟩
      have H6 : Hid (KnS w w6 g (A.ask f0) [(gf, C0, 37), (gk, (u8s A.s.key).toArray, 22)]) := Lib.hid (H5.out.call hA9 HAo.out hg9)
      clear hA9 hg9 HQ5 H5 HAsk HRg
      have HGs0 : Hid (gk < w6.heap.size ∧ gf < w6.heap.size) := Lib.hid ⟨HasB.lt (H6.out.at (k := gk) (C := (u8s A.s.key).toArray) (T := 22) (by simp)), HasB.lt (H6.out.at List.mem_cons_self)⟩
      go_wp2_with (first | (with_reducible refine wpList_store_row rfl 43 (.tmp 9) (.tmp 42) rfl w6.heap.size PS rfl rfl 43 zP (heap_new w6 _) HIPS.out HOPS.out HEPS.out ?_; rw [World.setRow_alloc_new]; refine Stop.mk ?_))
      refine Stop.go ?_
      have H7 : Hid (KnS w (w6.alloc (.cells PS 43)) g (A.ask f0) [(w6.heap.size, PS, 43), (gf, C0, 37), (gk, (u8s A.s.key).toArray, 22)]) := Lib.hid (H6.out.made PS _)
      generalize w6.alloc (.cells PS 43) = w7 at H7 ⊢
      obtain ⟨gs, hgs⟩ : ∃ g, g = w6.heap.size := ⟨_, rfl⟩
      rw [← hgs] at H7 ⊢
      have HNk : Hid (∀ x ∈ [(gs, PS, 43), (gf, C0, 37)], x.1 ≠ gk) := Lib.hid (by
        have h1 := HGs0.out.1
        have h2 := HGf.out
        intro x hx
        simp only [List.mem_cons, List.not_mem_nil, or_false] at hx
        rcases hx with rfl | rfl
        · show gs ≠ gk; omega
        · exact h2)
      clear hgs H6
      clear HGs0 HGk HGf
      cases hpk : (A.askStep f0).key with
      | true =>
        obtain ⟨e1, e2, _⟩ := HKs1.out hpk
        have hbf : hb = false := by rw [← HHs.out]; exact e1
        subst hbf
        have HPk := Lib.hid hpk
        have HPw := Lib.hid e2
        clear HKs1 HKs2 hpk e1 e2
        cases zok with
        | true =>
          have hks := keys_step A f0 HFo.out.dl true
          obtain ⟨A2, hA2⟩ : ∃ A2, A2 = (A.ask f0).done (A.askStep f0) true := ⟨_, rfl⟩
          have HA2o : Hid A2.Ok := Lib.hid (by rw [hA2]; exact RA.done_ok HAo.out HPo.out true)
          have HDon := Lib.hid (fun w h => done_any (A.ask f0) (A.askStep f0) true g w h HAo.out HPo.out)
          rw [← hA2] at HDon
          unfold RP.val at HDon
          rw [← HPS.out] at HDon
          have HB2 : Hid (A2.s.has = true) := Lib.hid (by rw [hA2, hks.2.2.1, HPk.out, HHs.out]; rfl)
          have HL : Hid (A2.s.key = f0.data.take 32) := Lib.hid (by rw [hA2, hks.2.2.2, HPk.out]; exact (hks.1 HPk.out).2.2)
          have hans := fun w h => answer_any A2 (List.replicate 64 0) true 24 #[] g w h HA2o.out ⟨rfl, by decide⟩ (fun args w => Try.call24 args w) (fun x w' _ => answer_zeroK x w')
          have hst := fun w h => state_any A2 g w h HA2o.out
          unfold RF.val at hans
          unfold RS.val at hst
          have hxo := RA.answer_ok HA2o.out (d := (List.replicate 64 0)) ⟨rfl, by decide⟩ true
          obtain ⟨CX, hCX⟩ : ∃ N, N = (A2.answer (List.replicate 64 0) true : RF).cells.toArray := ⟨_, rfl⟩
          have HICX : Hid ((Try.prog.info? 37).map (·.size) = some CX.size) := Lib.hid (by rw [hCX]; exact info_f hxo)
          have HOCX : Hid (zF.size = CX.size) := Lib.hid (by rw [hCX]; exact old_f hxo)
          have HECX : Hid (CX.all (·.oneCell') = true) := Lib.hid (by rw [hCX]; exact RF.one _)
          have HCX := Lib.hid hCX
          obtain ⟨SS, hSS⟩ : ∃ N, N = (A2.s : RS).cells.toArray := ⟨_, rfl⟩
          have HISS : Hid ((Try.prog.info? 31).map (·.size) = some SS.size) := Lib.hid (by rw [hSS, List.size_toArray, RS.len HA2o.out.s]; exact info_st)
          have HOSS : Hid ((#[Value.int .u8 0, Value.int .u8 0, Value.int .u8 0, Value.int .u8 0, Value.int .u8 0, Value.int .u8 0, Value.int .u8 0, Value.int .u8 0, Value.int .u8 0, Value.int .u8 0, Value.int .u8 0, Value.int .u8 0, Value.int .u8 0, Value.int .u8 0, Value.int .u8 0, Value.int .u8 0, Value.int .u8 0, Value.int .u8 0, Value.int .u8 0, Value.int .u8 0, Value.int .u8 0, Value.int .u8 0, Value.int .u8 0, Value.int .u8 0, Value.int .u8 0, Value.int .u8 0, Value.int .u8 0, Value.int .u8 0, Value.int .u8 0, Value.int .u8 0, Value.int .u8 0, Value.int .u8 0, .bool false, .int .u32 0] : Array Value).size = SS.size) := Lib.hid (by rw [show SS.size = 34 by rw [hSS, List.size_toArray, RS.len HA2o.out.s]]; rfl)
          have HESS : Hid (SS.all (·.oneCell') = true) := Lib.hid (by rw [hSS]; exact RS.one _)
          have HSS := Lib.hid hSS
          rw [← hCX] at hans
          rw [← hSS] at hst
          have HAns := Lib.hid hans
          have HSt := Lib.hid hst
          obtain ⟨KN, hKN⟩ : ∃ KN, KN = u8s A2.s.key := ⟨_, rfl⟩
          have HKN := Lib.hid hKN
          have HIkn : Hid ((Try.prog.info? 22).map (·.size) = some KN.length) := Lib.hid (by rw [hKN, u8s_len, HA2o.out.s.kl]; exact info_k32)
          have HIka : Hid ((Try.prog.info? 22).map (·.size) = some KN.toArray.size) := Lib.hid (by rw [hKN, List.size_toArray, u8s_len, HA2o.out.s.kl]; exact info_k32)
          have hek := fun w => equalIn_u8s 9998 22 32 Try.underlying22 HA2o.out.s.kb HA2o.out.s.kb HA2o.out.s.kl HA2o.out.s.kl w
          simp only [decide_true] at hek
          rw [← hKN] at hek
          have HEk := Lib.hid hek
          have c0 : w7.cell? ⟨gs, 0, none⟩ = some (.bool true) := by have := HasB.at (H7.out.at List.mem_cons_self : HasB w7 gs PS 43) 0; rw [this, HPS.out, ← HPk.out]; rfl
          have c1 : w7.cell? ⟨gs, 1, none⟩ = some (.bool false) := by have := HasB.at (H7.out.at List.mem_cons_self : HasB w7 gs PS 43) 1; rw [this, HPS.out, ← HPw.out]; rfl
          have hok7 := HOkc.out w7 H7.out.be
          clear hks hA2 hans hst hxo hCX hSS hKN hek
          go_wp2_with fail
          clear c0 c1 hok7
          have dk1 : decide ((k : Int) < (n : Int)) = true := by simp; omega
          have H7b : Hid (KnS w w7 g (A.ask f0) [(gk, (u8s (f0.data.take 0 ++ A.s.key.drop 0)).toArray, 22), (gs, PS, 43), (gf, C0, 37)]) := Lib.hid (H7.out.sub (fun x hx => by
            simp only [List.take_zero, List.nil_append, List.drop_zero, List.mem_cons, List.not_mem_nil, or_false] at hx ⊢
            rcases hx with rfl | rfl | rfl
            · exact .inr (.inr rfl)
            · exact .inl rfl
            · exact .inr (.inl rfl)))
          clear H7
          obtain ⟨w70, rfl⟩ : ∃ wo : World, wo = w7 := ⟨_, rfl⟩
          go_loopw [10] (fun j wr => ∃ m : Nat, m ≤ 32 ∧ j = .int .i64 (m : Int) ∧ Hid (KnS w wr g (A.ask f0) [(gk, (u8s (f0.data.take m ++ A.s.key.drop m)).toArray, 22), (gs, PS, 43), (gf, C0, 37)])) (fun j _ => 32 - (intOf j).toNat)
          case atStart => exact ⟨0, by omega, rfl, H7b⟩
          case round =>
            obtain ⟨m, hm, rfl, HI⟩ := hrel
            obtain ⟨w8, rfl⟩ : ∃ wo : World, wo = wr := ⟨_, rfl⟩
            by_cases hm2 : m < 32
            · obtain ⟨x, hx⟩ : ∃ x, f0.data[m]? = some x := ⟨_, List.getElem?_eq_getElem (by rw [HFo.out.dl]; omega)⟩
              have e1 : w8.cell? ⟨gf, 32 + m, none⟩ = some (.int .u8 (x : Int)) := by
                have := HasB.at (HI.out.at (k := gf) (C := C0) (T := 37) (by simp)) (32 + m)
                rw [this, HC0.out, List.getElem?_toArray, RF.at_data HFo.out m (by omega)]
                simp [List.getD, hx]
              have e2 := HasB.lt (HI.out.at List.mem_cons_self : HasB w8 gk (u8s (f0.data.take m ++ A.s.key.drop m)).toArray 22)
              have e3 : w8.frozen? ⟨gk, m, none⟩ = false := HasB.free (HI.out.at List.mem_cons_self : HasB w8 gk (u8s (f0.data.take m ++ A.s.key.drop m)).toArray 22) m
              have e4 : ∃ v, w8.cell? ⟨gk, m, none⟩ = some v := by
                have := HasB.at (HI.out.at List.mem_cons_self : HasB w8 gk (u8s (f0.data.take m ++ A.s.key.drop m)).toArray 22) m
                rw [this]
                exact ⟨_, Array.getElem?_eq_getElem (by rw [List.size_toArray, u8s_len, List.length_append, List.length_take, List.length_drop, HAk.out.s.kl, HFo.out.dl]; omega)⟩
              obtain ⟨v4, e4⟩ := e4
              have m1 : (m : Int) < 32 := by omega
              have m2 : (0 : Int) ≤ (m : Int) := by omega
              have m3 : ((m : Int)).toNat = m := by omega
              have m4 : (m : Int) < 64 := by omega
              have HI2 : Hid (KnS w (w8.setCell ⟨gk, m, none⟩ (.int .u8 (x : Int))) g (A.ask f0) [(gk, (u8s (f0.data.take (m + 1) ++ A.s.key.drop (m + 1))).toArray, 22), (gs, PS, 43), (gf, C0, 37)]) := Lib.hid (HI.out.put (fun x hx => HNk.out x hx) (by
                rw [← take_set f0.data A.s.key m x (by rw [HAk.out.s.kl]; omega) hx, ← u8s_set]
                have := HasB.set (HI.out.at List.mem_cons_self : HasB w8 gk (u8s (f0.data.take m ++ A.s.key.drop m)).toArray 22) m (.int .u8 (x : Int))
                rw [List.setIfInBounds_toArray] at this
                exact this) (gb_set (gb_refl _ _) _ _))
              clear hx
              go_wp2_with fail
              go_roundw
              case rel => exact ⟨m + 1, by omega, by go_num, HI2⟩
              case measure => simp [intOf]; omega
            · obtain rfl : m = 32 := by omega
              have H8 : Hid (KnS w w8 g (A.ask f0) [(gk, (u8s (f0.data.take 32)).toArray, 22), (gs, PS, 43), (gf, C0, 37)]) := Lib.hid (by
                have := HI.out
                rw [List.drop_eq_nil_of_le (by rw [HAk.out.s.kl]; decide), List.append_nil] at this
                exact this)
              clear HI hm hm2 dk1
              have HQs : Hid (w8.heap[gs]? = some (.cells PS 43 (0, 0))) := Lib.hid (H8.out.at (by simp))
              have HQc : Hid (w8.cell? ⟨b, off + k * 220 + 153, none⟩ = some (.bool true)) := Lib.hid (HOkc.out w8 H8.out.be)
              go_wp2_with fail
              refine wp_region_held_drew (S := (fun w' => w'.heap[gs]? = some (.cells PS 43 (0, 0)) ∧ w'.cell? ⟨b, off + k * 220 + 153, none⟩ = some (.bool true))) (by kernel_rfl) (⟨HQs.out, HQc.out⟩) (fun hHeld => ?_)
              refine held_take 0 (v := ?_) rfl (by kernel_rfl) (by kernel_rfl) (by kernel_rfl) (fun _ _ _ h => h) (by rfl) (fun w hS => ?_) (by assumption) ?_
              rotate_left
              · try dsimp only at hS
                have l1 := hS.2
                go_simp <;> with_reducible rfl
              try simp only [Act.put, List.setIfInBounds_toArray, List.set_cons_zero, List.set_cons_succ]
              refine held_take 1 (v := (.agg PS)) rfl (by kernel_rfl) (by kernel_rfl) (by kernel_rfl) (fun _ _ _ h => h) (by rfl) (fun w hS => ?_) (by assumption) ?_
              · exact yield_row _ _ 43 (.tmp 9) (by rfl) gs (by rfl) 43 PS (0, 0) _ hS.1 Try.underlying43 (by rfl) HIPS.out
              try simp only [Act.put, List.setIfInBounds_toArray, List.set_cons_zero, List.set_cons_succ]
              refine held_take 2 (v := ?_) rfl (by kernel_rfl) (by kernel_rfl) (by kernel_rfl) (fun _ _ _ h => h) (by rfl) (fun w hS => ?_) (by assumption) ?_
              rotate_left
              · try dsimp only at hS
                have l1 := hS.2
                go_simp <;> with_reducible rfl
              try simp only [Act.put, List.setIfInBounds_toArray, List.set_cons_zero, List.set_cons_succ]
              refine held_take 3 (v := ?_) rfl (by kernel_rfl) (by kernel_rfl) (by kernel_rfl) (fun _ _ _ h => h) (by rfl) (fun w hS => ?_) (by assumption) ?_
              rotate_left
              · try dsimp only at hS
                have l1 := hS.2
                go_simp <;> with_reducible rfl
              try simp only [Act.put, List.setIfInBounds_toArray, List.set_cons_zero, List.set_cons_succ]
              refine held_take 4 (v := ?_) rfl (by kernel_rfl) (by kernel_rfl) (by kernel_rfl) (fun _ _ _ h => h) (by rfl) (fun w hS => ?_) (by assumption) ?_
              rotate_left
              · try dsimp only at hS
                have l1 := hS.2
                go_simp <;> with_reducible rfl
              try simp only [Act.put, List.setIfInBounds_toArray, List.set_cons_zero, List.set_cons_succ]
              refine held_take 5 (v := ?_) rfl (by kernel_rfl) (by kernel_rfl) (by kernel_rfl) (fun _ _ _ h => h) (by rfl) (fun w hS => ?_) (by assumption) ?_
              rotate_left
              · try dsimp only at hS
                have l1 := hS.2
                go_simp <;> with_reducible rfl
              try simp only [Act.put, List.setIfInBounds_toArray, List.set_cons_zero, List.set_cons_succ]
              refine held_take 6 (v := ?_) rfl (by kernel_rfl) (by kernel_rfl) (by kernel_rfl) (fun _ _ _ h => h) (by rfl) (fun w hS => ?_) (by assumption) ?_
              rotate_left
              · try dsimp only at hS
                have l1 := hS.2
                go_simp <;> with_reducible rfl
              try simp only [Act.put, List.setIfInBounds_toArray, List.set_cons_zero, List.set_cons_succ]
              refine held_one 7 rfl (by kernel_rfl) (fun K hK => ?_)
              go_simp
              refine (HDon.out _ (H8.out.area.below (Below.refl _ _).drew)).mono ?_
              rintro e wd ⟨rfl, hA9, hg9⟩
              have HD : Hid (KnS w wd g A2 [(gk, (u8s (f0.data.take 32)).toArray, 22), (gs, PS, 43), (gf, C0, 37)]) := Lib.hid ((H8.out.below (Below.refl _ _).drew).call hA9 HA2o.out hg9)
              clear hA9 hg9
              refine hK.out _ _ (fun w' => w'.heap[gs]? = some (.cells PS 43 (0, 0)) ∧ w'.cell? ⟨b, off + k * 220 + 153, none⟩ = some (.bool true)) (fun _ h => h) ⟨HD.out.at (by simp), HOkc.out wd HD.out.be⟩ (fun hHeld => ?_)
              clear hK K
              try simp only [Act.put, List.setIfInBounds_toArray, List.set_cons_zero, List.set_cons_succ]
              refine held_done (by kernel_rfl) ?_
              clear HQs HQc H8
              go_wp2_with fail
              refine (HAns.out wd HD.out.area).mono ?_
              rintro e we ⟨rfl, hb⟩
              have HE := Lib.hid (HD.out.below hb)
              clear hb HD
              go_wp2_with (first | (with_reducible refine wpList_store_row rfl 37 (.tmp 11) (.tmp 84) rfl we.heap.size CX rfl rfl 37 zF (heap_new we _) HICX.out HOCX.out HECX.out ?_; rw [World.setRow_alloc_new]; refine Stop.mk ?_))
              refine Stop.go ?_
              have HF : Hid (KnS w (we.alloc (.cells CX 37)) g A2 [(we.heap.size, CX, 37), (gk, (u8s (f0.data.take 32)).toArray, 22), (gs, PS, 43), (gf, C0, 37)]) := Lib.hid (HE.out.made CX _)
              generalize we.alloc (.cells CX 37) = wf at HF ⊢
              obtain ⟨gx, hgx⟩ : ∃ g, g = we.heap.size := ⟨_, rfl⟩
              rw [← hgx] at HF ⊢
              clear hgx HE
              go_wp2_with fail
              refine (HSt.out wf HF.out.area).mono ?_
              rintro e wg ⟨rfl, hb⟩
              have HG := Lib.hid (HF.out.below hb)
              clear hb HF
              go_wp2_with (first | (with_reducible refine wpList_store_row rfl 31 (.tmp 12) (.tmp 86) rfl wg.heap.size SS rfl rfl 31 #[Value.int .u8 0, Value.int .u8 0, Value.int .u8 0, Value.int .u8 0, Value.int .u8 0, Value.int .u8 0, Value.int .u8 0, Value.int .u8 0, Value.int .u8 0, Value.int .u8 0, Value.int .u8 0, Value.int .u8 0, Value.int .u8 0, Value.int .u8 0, Value.int .u8 0, Value.int .u8 0, Value.int .u8 0, Value.int .u8 0, Value.int .u8 0, Value.int .u8 0, Value.int .u8 0, Value.int .u8 0, Value.int .u8 0, Value.int .u8 0, Value.int .u8 0, Value.int .u8 0, Value.int .u8 0, Value.int .u8 0, Value.int .u8 0, Value.int .u8 0, Value.int .u8 0, Value.int .u8 0, .bool false, .int .u32 0] (heap_new wg _) HISS.out HOSS.out HESS.out ?_; rw [World.setRow_alloc_new]; refine Stop.mk ?_))
              refine Stop.go ?_
              have HH : Hid (KnS w (wg.alloc (.cells SS 31)) g A2 [(wg.heap.size, SS, 31), (gx, CX, 37), (gk, (u8s (f0.data.take 32)).toArray, 22), (gs, PS, 43), (gf, C0, 37)]) := Lib.hid (HG.out.made SS _)
              generalize wg.alloc (.cells SS 31) = wh at HH ⊢
              obtain ⟨gt, hgt⟩ : ∃ g, g = wg.heap.size := ⟨_, rfl⟩
              rw [← hgt] at HH ⊢
              clear hgt HG
              have q1 : wh.cell? ⟨gt, 32, none⟩ = some (.bool true) := by rw [← HB2.out]; have := HasB.at (HH.out.at List.mem_cons_self : HasB wh gt SS 31) 32; rw [this, HSS.out]; simp [RS.cells, u8s_len, HA2o.out.s.kl]
              have HQt : Hid (wh.rangeAt gt 0 KN) := Lib.hid (by have := (HH.out.at List.mem_cons_self : HasB wh gt SS 31); rw [HSS.out] at this; rw [HKN.out]; exact HasB.range3 (A := []) this rfl)
              have HQk : Hid (wh.heap[gk]? = some (.cells KN.toArray 22 (0, 0))) := Lib.hid (by rw [HKN.out, HL.out]; exact HH.out.at (by simp))
              have hek := HEk.out
              go_wp2_with (with_reducible refine stop_dst 93 rfl ?_)
              refine Stop.go ?_
              refine wpList_wanted (by rfl) (fun K hK => ?_)
              refine wp_load_mid 22 (.tmp 92) rfl gt 0 rfl KN _ HQt.out Try.underlying22 rfl HIkn.out ?_
              refine hK _ _ ?_
              clear hK K
              refine wpList_wanted (by rfl) (fun K hK => ?_)
              refine wp_load_row 22 (.tmp 5) rfl gk rfl 22 KN.toArray (0, 0) _ HQk.out Try.underlying22 rfl HIka.out ?_
              refine hK _ _ ?_
              clear hK K
              have HN : Hid (KnS w wh g A2 [(gk, (u8s A2.s.key).toArray, 22)]) := Lib.hid (HH.out.sub (fun x hx => by simp only [List.mem_singleton] at hx; subst hx; rw [HL.out]; simp))
              clear HH q1 HQt HQk
              go_wp2_with fail
              go_roundw
              case rel => exact ⟨k + 1, true, by omega, by go_num, rfl, Lib.hid ⟨_, HN.out, HB2.out⟩⟩
              case measure => simp [intOf]; omega
        | false =>
          have hks := keys_step A f0 HFo.out.dl false
          obtain ⟨A2, hA2⟩ : ∃ A2, A2 = (A.ask f0).done (A.askStep f0) false := ⟨_, rfl⟩
          have HA2o : Hid A2.Ok := Lib.hid (by rw [hA2]; exact RA.done_ok HAo.out HPo.out false)
          have HDon := Lib.hid (fun w h => done_any (A.ask f0) (A.askStep f0) false g w h HAo.out HPo.out)
          rw [← hA2] at HDon
          unfold RP.val at HDon
          rw [← HPS.out] at HDon
          have HB2 : Hid (A2.s.has = false) := Lib.hid (by rw [hA2, hks.2.2.1, HPk.out, HHs.out]; rfl)
          have HL : Hid (A2.s.key = A.s.key) := Lib.hid (by rw [hA2, hks.2.2.2, HPk.out]; rfl)
          have hans := fun w h => answer_any A2 (List.replicate 64 0) true 24 #[] g w h HA2o.out ⟨rfl, by decide⟩ (fun args w => Try.call24 args w) (fun x w' _ => answer_zeroK x w')
          have hst := fun w h => state_any A2 g w h HA2o.out
          unfold RF.val at hans
          unfold RS.val at hst
          have hxo := RA.answer_ok HA2o.out (d := (List.replicate 64 0)) ⟨rfl, by decide⟩ true
          obtain ⟨CX, hCX⟩ : ∃ N, N = (A2.answer (List.replicate 64 0) true : RF).cells.toArray := ⟨_, rfl⟩
          have HICX : Hid ((Try.prog.info? 37).map (·.size) = some CX.size) := Lib.hid (by rw [hCX]; exact info_f hxo)
          have HOCX : Hid (zF.size = CX.size) := Lib.hid (by rw [hCX]; exact old_f hxo)
          have HECX : Hid (CX.all (·.oneCell') = true) := Lib.hid (by rw [hCX]; exact RF.one _)
          have HCX := Lib.hid hCX
          obtain ⟨SS, hSS⟩ : ∃ N, N = (A2.s : RS).cells.toArray := ⟨_, rfl⟩
          have HISS : Hid ((Try.prog.info? 31).map (·.size) = some SS.size) := Lib.hid (by rw [hSS, List.size_toArray, RS.len HA2o.out.s]; exact info_st)
          have HOSS : Hid ((#[Value.int .u8 0, Value.int .u8 0, Value.int .u8 0, Value.int .u8 0, Value.int .u8 0, Value.int .u8 0, Value.int .u8 0, Value.int .u8 0, Value.int .u8 0, Value.int .u8 0, Value.int .u8 0, Value.int .u8 0, Value.int .u8 0, Value.int .u8 0, Value.int .u8 0, Value.int .u8 0, Value.int .u8 0, Value.int .u8 0, Value.int .u8 0, Value.int .u8 0, Value.int .u8 0, Value.int .u8 0, Value.int .u8 0, Value.int .u8 0, Value.int .u8 0, Value.int .u8 0, Value.int .u8 0, Value.int .u8 0, Value.int .u8 0, Value.int .u8 0, Value.int .u8 0, Value.int .u8 0, .bool false, .int .u32 0] : Array Value).size = SS.size) := Lib.hid (by rw [show SS.size = 34 by rw [hSS, List.size_toArray, RS.len HA2o.out.s]]; rfl)
          have HESS : Hid (SS.all (·.oneCell') = true) := Lib.hid (by rw [hSS]; exact RS.one _)
          have HSS := Lib.hid hSS
          rw [← hCX] at hans
          rw [← hSS] at hst
          have HAns := Lib.hid hans
          have HSt := Lib.hid hst
          have HTg : Hid ((A2.answer (List.replicate 64 0) true).tag = List.replicate 32 0) := Lib.hid (keyless_tag HB2.out _ _)
          obtain ⟨KN, hKN⟩ : ∃ KN, KN = u8s A2.s.key := ⟨_, rfl⟩
          have HKN := Lib.hid hKN
          have HIkn : Hid ((Try.prog.info? 22).map (·.size) = some KN.length) := Lib.hid (by rw [hKN, u8s_len, HA2o.out.s.kl]; exact info_k32)
          have HIka : Hid ((Try.prog.info? 22).map (·.size) = some KN.toArray.size) := Lib.hid (by rw [hKN, List.size_toArray, u8s_len, HA2o.out.s.kl]; exact info_k32)
          have hek := fun w => equalIn_u8s 9998 22 32 Try.underlying22 HA2o.out.s.kb HA2o.out.s.kb HA2o.out.s.kl HA2o.out.s.kl w
          simp only [decide_true] at hek
          rw [← hKN] at hek
          have HEk := Lib.hid hek
          have c0 : w7.cell? ⟨gs, 0, none⟩ = some (.bool true) := by have := HasB.at (H7.out.at List.mem_cons_self : HasB w7 gs PS 43) 0; rw [this, HPS.out, ← HPk.out]; rfl
          have c1 : w7.cell? ⟨gs, 1, none⟩ = some (.bool false) := by have := HasB.at (H7.out.at List.mem_cons_self : HasB w7 gs PS 43) 1; rw [this, HPS.out, ← HPw.out]; rfl
          have hok7 := HOkc.out w7 H7.out.be
          clear hks hA2 hans hst hxo hCX hSS hKN hek
          have H8 : Hid (KnS w w7 g (A.ask f0) [(gk, (u8s A.s.key).toArray, 22), (gs, PS, 43), (gf, C0, 37)]) := Lib.hid (H7.out.sub (fun x hx => by
            simp only [List.mem_cons, List.not_mem_nil, or_false] at hx ⊢
            rcases hx with rfl | rfl | rfl
            · exact .inr (.inr rfl)
            · exact .inl rfl
            · exact .inr (.inl rfl)))
          clear H7
          have HQs : Hid (w7.heap[gs]? = some (.cells PS 43 (0, 0))) := Lib.hid (H8.out.at (by simp))
          have HQc : Hid (w7.cell? ⟨b, off + k * 220 + 153, none⟩ = some (.bool false)) := Lib.hid (HOkc.out w7 H8.out.be)
          go_wp2_with fail
          refine wp_region_held_drew (S := (fun w' => w'.heap[gs]? = some (.cells PS 43 (0, 0)) ∧ w'.cell? ⟨b, off + k * 220 + 153, none⟩ = some (.bool false))) (by kernel_rfl) (⟨HQs.out, HQc.out⟩) (fun hHeld => ?_)
          refine held_take 0 (v := ?_) rfl (by kernel_rfl) (by kernel_rfl) (by kernel_rfl) (fun _ _ _ h => h) (by rfl) (fun w hS => ?_) (by assumption) ?_
          rotate_left
          · try dsimp only at hS
            have l1 := hS.2
            go_simp <;> with_reducible rfl
          try simp only [Act.put, List.setIfInBounds_toArray, List.set_cons_zero, List.set_cons_succ]
          refine held_take 1 (v := (.agg PS)) rfl (by kernel_rfl) (by kernel_rfl) (by kernel_rfl) (fun _ _ _ h => h) (by rfl) (fun w hS => ?_) (by assumption) ?_
          · exact yield_row _ _ 43 (.tmp 9) (by rfl) gs (by rfl) 43 PS (0, 0) _ hS.1 Try.underlying43 (by rfl) HIPS.out
          try simp only [Act.put, List.setIfInBounds_toArray, List.set_cons_zero, List.set_cons_succ]
          refine held_take 2 (v := ?_) rfl (by kernel_rfl) (by kernel_rfl) (by kernel_rfl) (fun _ _ _ h => h) (by rfl) (fun w hS => ?_) (by assumption) ?_
          rotate_left
          · try dsimp only at hS
            have l1 := hS.2
            go_simp <;> with_reducible rfl
          try simp only [Act.put, List.setIfInBounds_toArray, List.set_cons_zero, List.set_cons_succ]
          refine held_take 3 (v := ?_) rfl (by kernel_rfl) (by kernel_rfl) (by kernel_rfl) (fun _ _ _ h => h) (by rfl) (fun w hS => ?_) (by assumption) ?_
          rotate_left
          · try dsimp only at hS
            have l1 := hS.2
            go_simp <;> with_reducible rfl
          try simp only [Act.put, List.setIfInBounds_toArray, List.set_cons_zero, List.set_cons_succ]
          refine held_take 4 (v := ?_) rfl (by kernel_rfl) (by kernel_rfl) (by kernel_rfl) (fun _ _ _ h => h) (by rfl) (fun w hS => ?_) (by assumption) ?_
          rotate_left
          · try dsimp only at hS
            have l1 := hS.2
            go_simp <;> with_reducible rfl
          try simp only [Act.put, List.setIfInBounds_toArray, List.set_cons_zero, List.set_cons_succ]
          refine held_take 5 (v := ?_) rfl (by kernel_rfl) (by kernel_rfl) (by kernel_rfl) (fun _ _ _ h => h) (by rfl) (fun w hS => ?_) (by assumption) ?_
          rotate_left
          · try dsimp only at hS
            have l1 := hS.2
            go_simp <;> with_reducible rfl
          try simp only [Act.put, List.setIfInBounds_toArray, List.set_cons_zero, List.set_cons_succ]
          refine held_take 6 (v := ?_) rfl (by kernel_rfl) (by kernel_rfl) (by kernel_rfl) (fun _ _ _ h => h) (by rfl) (fun w hS => ?_) (by assumption) ?_
          rotate_left
          · try dsimp only at hS
            have l1 := hS.2
            go_simp <;> with_reducible rfl
          try simp only [Act.put, List.setIfInBounds_toArray, List.set_cons_zero, List.set_cons_succ]
          refine held_one 7 rfl (by kernel_rfl) (fun K hK => ?_)
          go_simp
          refine (HDon.out _ (H8.out.area.below (Below.refl _ _).drew)).mono ?_
          rintro e wd ⟨rfl, hA9, hg9⟩
          have HD : Hid (KnS w wd g A2 [(gk, (u8s A.s.key).toArray, 22), (gs, PS, 43), (gf, C0, 37)]) := Lib.hid ((H8.out.below (Below.refl _ _).drew).call hA9 HA2o.out hg9)
          clear hA9 hg9
          refine hK.out _ _ (fun w' => w'.heap[gs]? = some (.cells PS 43 (0, 0)) ∧ w'.cell? ⟨b, off + k * 220 + 153, none⟩ = some (.bool false)) (fun _ h => h) ⟨HD.out.at (by simp), HOkc.out wd HD.out.be⟩ (fun hHeld => ?_)
          clear hK K
          try simp only [Act.put, List.setIfInBounds_toArray, List.set_cons_zero, List.set_cons_succ]
          refine held_done (by kernel_rfl) ?_
          clear HQs HQc H8
          go_wp2_with fail
          refine (HAns.out wd HD.out.area).mono ?_
          rintro e we ⟨rfl, hb⟩
          have HE := Lib.hid (HD.out.below hb)
          clear hb HD
          go_wp2_with (first | (with_reducible refine wpList_store_row rfl 37 (.tmp 11) (.tmp 84) rfl we.heap.size CX rfl rfl 37 zF (heap_new we _) HICX.out HOCX.out HECX.out ?_; rw [World.setRow_alloc_new]; refine Stop.mk ?_))
          refine Stop.go ?_
          have HF : Hid (KnS w (we.alloc (.cells CX 37)) g A2 [(we.heap.size, CX, 37), (gk, (u8s A.s.key).toArray, 22), (gs, PS, 43), (gf, C0, 37)]) := Lib.hid (HE.out.made CX _)
          generalize we.alloc (.cells CX 37) = wf at HF ⊢
          obtain ⟨gx, hgx⟩ : ∃ g, g = we.heap.size := ⟨_, rfl⟩
          rw [← hgx] at HF ⊢
          clear hgx HE
          go_wp2_with fail
          refine (HSt.out wf HF.out.area).mono ?_
          rintro e wg ⟨rfl, hb⟩
          have HG := Lib.hid (HF.out.below hb)
          clear hb HF
          go_wp2_with (first | (with_reducible refine wpList_store_row rfl 31 (.tmp 12) (.tmp 86) rfl wg.heap.size SS rfl rfl 31 #[Value.int .u8 0, Value.int .u8 0, Value.int .u8 0, Value.int .u8 0, Value.int .u8 0, Value.int .u8 0, Value.int .u8 0, Value.int .u8 0, Value.int .u8 0, Value.int .u8 0, Value.int .u8 0, Value.int .u8 0, Value.int .u8 0, Value.int .u8 0, Value.int .u8 0, Value.int .u8 0, Value.int .u8 0, Value.int .u8 0, Value.int .u8 0, Value.int .u8 0, Value.int .u8 0, Value.int .u8 0, Value.int .u8 0, Value.int .u8 0, Value.int .u8 0, Value.int .u8 0, Value.int .u8 0, Value.int .u8 0, Value.int .u8 0, Value.int .u8 0, Value.int .u8 0, Value.int .u8 0, .bool false, .int .u32 0] (heap_new wg _) HISS.out HOSS.out HESS.out ?_; rw [World.setRow_alloc_new]; refine Stop.mk ?_))
          refine Stop.go ?_
          have HH : Hid (KnS w (wg.alloc (.cells SS 31)) g A2 [(wg.heap.size, SS, 31), (gx, CX, 37), (gk, (u8s A.s.key).toArray, 22), (gs, PS, 43), (gf, C0, 37)]) := Lib.hid (HG.out.made SS _)
          generalize wg.alloc (.cells SS 31) = wh at HH ⊢
          obtain ⟨gt, hgt⟩ : ∃ g, g = wg.heap.size := ⟨_, rfl⟩
          rw [← hgt] at HH ⊢
          clear hgt HG
          have q1 : wh.cell? ⟨gt, 32, none⟩ = some (.bool false) := by rw [← HB2.out]; have := HasB.at (HH.out.at List.mem_cons_self : HasB wh gt SS 31) 32; rw [this, HSS.out]; simp [RS.cells, u8s_len, HA2o.out.s.kl]
          have HQt : Hid (wh.rangeAt gt 0 KN) := Lib.hid (by have := (HH.out.at List.mem_cons_self : HasB wh gt SS 31); rw [HSS.out] at this; rw [HKN.out]; exact HasB.range3 (A := []) this rfl)
          have HQk : Hid (wh.heap[gk]? = some (.cells KN.toArray 22 (0, 0))) := Lib.hid (by rw [HKN.out, HL.out]; exact HH.out.at (by simp))
          have hek := HEk.out
          go_wp2_with (with_reducible refine stop_dst 93 rfl ?_)
          refine Stop.go ?_
          refine wpList_wanted (by rfl) (fun K hK => ?_)
          refine wp_load_mid 22 (.tmp 92) rfl gt 0 rfl KN _ HQt.out Try.underlying22 rfl HIkn.out ?_
          refine hK _ _ ?_
          clear hK K
          refine wpList_wanted (by rfl) (fun K hK => ?_)
          refine wp_load_row 22 (.tmp 5) rfl gk rfl 22 KN.toArray (0, 0) _ HQk.out Try.underlying22 rfl HIka.out ?_
          refine hK _ _ ?_
          clear hK K
          obtain ⟨ZL, hZL⟩ : ∃ ZL, ZL = u8s (List.replicate 32 0) := ⟨_, rfl⟩
          have hz32 := neq_zero32
          rw [← hZL] at hz32
          have HQx : Hid (wh.rangeAt gx 0 ZL) := Lib.hid (by have := (HH.out.at (k := gx) (C := CX) (T := 37) (by simp)); rw [HCX.out] at this; rw [hZL, ← HTg.out]; exact RF.tag_at this)
          have HIzl : Hid ((Try.prog.info? 33).map (·.size) = some ZL.length) := Lib.hid (by rw [hZL]; exact info_s32)
          clear hZL
          go_wp2_with (with_reducible refine stop_dst 102 rfl ?_)
          refine Stop.go ?_
          refine wpList_wanted (by rfl) (fun K hK => ?_)
          refine wp_load_mid 33 (.tmp 101) rfl gx 0 rfl ZL _ HQx.out Try.underlying33 rfl HIzl.out ?_
          refine hK _ _ ?_
          clear hK K
          have HN : Hid (KnS w wh g A2 [(gk, (u8s A2.s.key).toArray, 22)]) := Lib.hid (HH.out.sub (fun x hx => by simp only [List.mem_singleton] at hx; subst hx; rw [HL.out]; simp))
          clear HH q1 HQt HQk
          go_wp2_with fail
          go_roundw
          case rel => exact ⟨k + 1, false, by omega, by go_num, rfl, Lib.hid ⟨_, HN.out, HB2.out⟩⟩
          case measure => simp [intOf]; omega
      | false =>
        have HPk := Lib.hid hpk
        clear hpk HKs1
        cases hpw : (A.askStep f0).write with
        | true =>
          have hbf : hb = true := by rw [← HHs.out]; exact HKs2.out hpw
          subst hbf
          have HPw := Lib.hid hpw
          clear HKs2 hpw
          have hks := keys_step A f0 HFo.out.dl zok
          obtain ⟨A2, hA2⟩ : ∃ A2, A2 = (A.ask f0).done (A.askStep f0) zok := ⟨_, rfl⟩
          have HA2o : Hid A2.Ok := Lib.hid (by rw [hA2]; exact RA.done_ok HAo.out HPo.out zok)
          have HDon := Lib.hid (fun w h => done_any (A.ask f0) (A.askStep f0) zok g w h HAo.out HPo.out)
          rw [← hA2] at HDon
          unfold RP.val at HDon
          rw [← HPS.out] at HDon
          have HB2 : Hid (A2.s.has = true) := Lib.hid (by rw [hA2, hks.2.2.1, HPk.out, HHs.out]; rfl)
          have HL : Hid (A2.s.key = A.s.key) := Lib.hid (by rw [hA2, hks.2.2.2, HPk.out]; rfl)
          have hans := fun w h => answer_any A2 (List.replicate 64 0) true 24 #[] g w h HA2o.out ⟨rfl, by decide⟩ (fun args w => Try.call24 args w) (fun x w' _ => answer_zeroK x w')
          have hst := fun w h => state_any A2 g w h HA2o.out
          unfold RF.val at hans
          unfold RS.val at hst
          have hxo := RA.answer_ok HA2o.out (d := (List.replicate 64 0)) ⟨rfl, by decide⟩ true
          obtain ⟨CX, hCX⟩ : ∃ N, N = (A2.answer (List.replicate 64 0) true : RF).cells.toArray := ⟨_, rfl⟩
          have HICX : Hid ((Try.prog.info? 37).map (·.size) = some CX.size) := Lib.hid (by rw [hCX]; exact info_f hxo)
          have HOCX : Hid (zF.size = CX.size) := Lib.hid (by rw [hCX]; exact old_f hxo)
          have HECX : Hid (CX.all (·.oneCell') = true) := Lib.hid (by rw [hCX]; exact RF.one _)
          have HCX := Lib.hid hCX
          obtain ⟨SS, hSS⟩ : ∃ N, N = (A2.s : RS).cells.toArray := ⟨_, rfl⟩
          have HISS : Hid ((Try.prog.info? 31).map (·.size) = some SS.size) := Lib.hid (by rw [hSS, List.size_toArray, RS.len HA2o.out.s]; exact info_st)
          have HOSS : Hid ((#[Value.int .u8 0, Value.int .u8 0, Value.int .u8 0, Value.int .u8 0, Value.int .u8 0, Value.int .u8 0, Value.int .u8 0, Value.int .u8 0, Value.int .u8 0, Value.int .u8 0, Value.int .u8 0, Value.int .u8 0, Value.int .u8 0, Value.int .u8 0, Value.int .u8 0, Value.int .u8 0, Value.int .u8 0, Value.int .u8 0, Value.int .u8 0, Value.int .u8 0, Value.int .u8 0, Value.int .u8 0, Value.int .u8 0, Value.int .u8 0, Value.int .u8 0, Value.int .u8 0, Value.int .u8 0, Value.int .u8 0, Value.int .u8 0, Value.int .u8 0, Value.int .u8 0, Value.int .u8 0, .bool false, .int .u32 0] : Array Value).size = SS.size) := Lib.hid (by rw [show SS.size = 34 by rw [hSS, List.size_toArray, RS.len HA2o.out.s]]; rfl)
          have HESS : Hid (SS.all (·.oneCell') = true) := Lib.hid (by rw [hSS]; exact RS.one _)
          have HSS := Lib.hid hSS
          rw [← hCX] at hans
          rw [← hSS] at hst
          have HAns := Lib.hid hans
          have HSt := Lib.hid hst
          obtain ⟨KN, hKN⟩ : ∃ KN, KN = u8s A2.s.key := ⟨_, rfl⟩
          have HKN := Lib.hid hKN
          have HIkn : Hid ((Try.prog.info? 22).map (·.size) = some KN.length) := Lib.hid (by rw [hKN, u8s_len, HA2o.out.s.kl]; exact info_k32)
          have HIka : Hid ((Try.prog.info? 22).map (·.size) = some KN.toArray.size) := Lib.hid (by rw [hKN, List.size_toArray, u8s_len, HA2o.out.s.kl]; exact info_k32)
          have hek := fun w => equalIn_u8s 9998 22 32 Try.underlying22 HA2o.out.s.kb HA2o.out.s.kb HA2o.out.s.kl HA2o.out.s.kl w
          simp only [decide_true] at hek
          rw [← hKN] at hek
          have HEk := Lib.hid hek
          have c0 : w7.cell? ⟨gs, 0, none⟩ = some (.bool false) := by have := HasB.at (H7.out.at List.mem_cons_self : HasB w7 gs PS 43) 0; rw [this, HPS.out, ← HPk.out]; rfl
          have c1 : w7.cell? ⟨gs, 1, none⟩ = some (.bool true) := by have := HasB.at (H7.out.at List.mem_cons_self : HasB w7 gs PS 43) 1; rw [this, HPS.out, ← HPw.out]; rfl
          have hok7 := HOkc.out w7 H7.out.be
          clear hks hA2 hans hst hxo hCX hSS hKN hek
          have H8 : Hid (KnS w w7 g (A.ask f0) [(gk, (u8s A.s.key).toArray, 22), (gs, PS, 43), (gf, C0, 37)]) := Lib.hid (H7.out.sub (fun x hx => by
            simp only [List.mem_cons, List.not_mem_nil, or_false] at hx ⊢
            rcases hx with rfl | rfl | rfl
            · exact .inr (.inr rfl)
            · exact .inl rfl
            · exact .inr (.inl rfl)))
          clear H7
          have HQs : Hid (w7.heap[gs]? = some (.cells PS 43 (0, 0))) := Lib.hid (H8.out.at (by simp))
          have HQc : Hid (w7.cell? ⟨b, off + k * 220 + 153, none⟩ = some (.bool zok)) := Lib.hid (HOkc.out w7 H8.out.be)
          go_wp2_with fail
          refine wp_region_held_drew (S := (fun w' => w'.heap[gs]? = some (.cells PS 43 (0, 0)) ∧ w'.cell? ⟨b, off + k * 220 + 153, none⟩ = some (.bool zok))) (by kernel_rfl) (⟨HQs.out, HQc.out⟩) (fun hHeld => ?_)
          refine held_take 0 (v := ?_) rfl (by kernel_rfl) (by kernel_rfl) (by kernel_rfl) (fun _ _ _ h => h) (by rfl) (fun w hS => ?_) (by assumption) ?_
          rotate_left
          · try dsimp only at hS
            have l1 := hS.2
            go_simp <;> with_reducible rfl
          try simp only [Act.put, List.setIfInBounds_toArray, List.set_cons_zero, List.set_cons_succ]
          refine held_take 1 (v := (.agg PS)) rfl (by kernel_rfl) (by kernel_rfl) (by kernel_rfl) (fun _ _ _ h => h) (by rfl) (fun w hS => ?_) (by assumption) ?_
          · exact yield_row _ _ 43 (.tmp 9) (by rfl) gs (by rfl) 43 PS (0, 0) _ hS.1 Try.underlying43 (by rfl) HIPS.out
          try simp only [Act.put, List.setIfInBounds_toArray, List.set_cons_zero, List.set_cons_succ]
          refine held_take 2 (v := ?_) rfl (by kernel_rfl) (by kernel_rfl) (by kernel_rfl) (fun _ _ _ h => h) (by rfl) (fun w hS => ?_) (by assumption) ?_
          rotate_left
          · try dsimp only at hS
            have l1 := hS.2
            go_simp <;> with_reducible rfl
          try simp only [Act.put, List.setIfInBounds_toArray, List.set_cons_zero, List.set_cons_succ]
          refine held_take 3 (v := ?_) rfl (by kernel_rfl) (by kernel_rfl) (by kernel_rfl) (fun _ _ _ h => h) (by rfl) (fun w hS => ?_) (by assumption) ?_
          rotate_left
          · try dsimp only at hS
            have l1 := hS.2
            go_simp <;> with_reducible rfl
          try simp only [Act.put, List.setIfInBounds_toArray, List.set_cons_zero, List.set_cons_succ]
          refine held_take 4 (v := ?_) rfl (by kernel_rfl) (by kernel_rfl) (by kernel_rfl) (fun _ _ _ h => h) (by rfl) (fun w hS => ?_) (by assumption) ?_
          rotate_left
          · try dsimp only at hS
            have l1 := hS.2
            go_simp <;> with_reducible rfl
          try simp only [Act.put, List.setIfInBounds_toArray, List.set_cons_zero, List.set_cons_succ]
          refine held_take 5 (v := ?_) rfl (by kernel_rfl) (by kernel_rfl) (by kernel_rfl) (fun _ _ _ h => h) (by rfl) (fun w hS => ?_) (by assumption) ?_
          rotate_left
          · try dsimp only at hS
            have l1 := hS.2
            go_simp <;> with_reducible rfl
          try simp only [Act.put, List.setIfInBounds_toArray, List.set_cons_zero, List.set_cons_succ]
          refine held_take 6 (v := ?_) rfl (by kernel_rfl) (by kernel_rfl) (by kernel_rfl) (fun _ _ _ h => h) (by rfl) (fun w hS => ?_) (by assumption) ?_
          rotate_left
          · try dsimp only at hS
            have l1 := hS.2
            go_simp <;> with_reducible rfl
          try simp only [Act.put, List.setIfInBounds_toArray, List.set_cons_zero, List.set_cons_succ]
          refine held_one 7 rfl (by kernel_rfl) (fun K hK => ?_)
          go_simp
          refine (HDon.out _ (H8.out.area.below (Below.refl _ _).drew)).mono ?_
          rintro e wd ⟨rfl, hA9, hg9⟩
          have HD : Hid (KnS w wd g A2 [(gk, (u8s A.s.key).toArray, 22), (gs, PS, 43), (gf, C0, 37)]) := Lib.hid ((H8.out.below (Below.refl _ _).drew).call hA9 HA2o.out hg9)
          clear hA9 hg9
          refine hK.out _ _ (fun w' => w'.heap[gs]? = some (.cells PS 43 (0, 0)) ∧ w'.cell? ⟨b, off + k * 220 + 153, none⟩ = some (.bool zok)) (fun _ h => h) ⟨HD.out.at (by simp), HOkc.out wd HD.out.be⟩ (fun hHeld => ?_)
          clear hK K
          try simp only [Act.put, List.setIfInBounds_toArray, List.set_cons_zero, List.set_cons_succ]
          refine held_done (by kernel_rfl) ?_
          clear HQs HQc H8
          go_wp2_with fail
          refine (HAns.out wd HD.out.area).mono ?_
          rintro e we ⟨rfl, hb⟩
          have HE := Lib.hid (HD.out.below hb)
          clear hb HD
          go_wp2_with (first | (with_reducible refine wpList_store_row rfl 37 (.tmp 11) (.tmp 84) rfl we.heap.size CX rfl rfl 37 zF (heap_new we _) HICX.out HOCX.out HECX.out ?_; rw [World.setRow_alloc_new]; refine Stop.mk ?_))
          refine Stop.go ?_
          have HF : Hid (KnS w (we.alloc (.cells CX 37)) g A2 [(we.heap.size, CX, 37), (gk, (u8s A.s.key).toArray, 22), (gs, PS, 43), (gf, C0, 37)]) := Lib.hid (HE.out.made CX _)
          generalize we.alloc (.cells CX 37) = wf at HF ⊢
          obtain ⟨gx, hgx⟩ : ∃ g, g = we.heap.size := ⟨_, rfl⟩
          rw [← hgx] at HF ⊢
          clear hgx HE
          go_wp2_with fail
          refine (HSt.out wf HF.out.area).mono ?_
          rintro e wg ⟨rfl, hb⟩
          have HG := Lib.hid (HF.out.below hb)
          clear hb HF
          go_wp2_with (first | (with_reducible refine wpList_store_row rfl 31 (.tmp 12) (.tmp 86) rfl wg.heap.size SS rfl rfl 31 #[Value.int .u8 0, Value.int .u8 0, Value.int .u8 0, Value.int .u8 0, Value.int .u8 0, Value.int .u8 0, Value.int .u8 0, Value.int .u8 0, Value.int .u8 0, Value.int .u8 0, Value.int .u8 0, Value.int .u8 0, Value.int .u8 0, Value.int .u8 0, Value.int .u8 0, Value.int .u8 0, Value.int .u8 0, Value.int .u8 0, Value.int .u8 0, Value.int .u8 0, Value.int .u8 0, Value.int .u8 0, Value.int .u8 0, Value.int .u8 0, Value.int .u8 0, Value.int .u8 0, Value.int .u8 0, Value.int .u8 0, Value.int .u8 0, Value.int .u8 0, Value.int .u8 0, Value.int .u8 0, .bool false, .int .u32 0] (heap_new wg _) HISS.out HOSS.out HESS.out ?_; rw [World.setRow_alloc_new]; refine Stop.mk ?_))
          refine Stop.go ?_
          have HH : Hid (KnS w (wg.alloc (.cells SS 31)) g A2 [(wg.heap.size, SS, 31), (gx, CX, 37), (gk, (u8s A.s.key).toArray, 22), (gs, PS, 43), (gf, C0, 37)]) := Lib.hid (HG.out.made SS _)
          generalize wg.alloc (.cells SS 31) = wh at HH ⊢
          obtain ⟨gt, hgt⟩ : ∃ g, g = wg.heap.size := ⟨_, rfl⟩
          rw [← hgt] at HH ⊢
          clear hgt HG
          have q1 : wh.cell? ⟨gt, 32, none⟩ = some (.bool true) := by rw [← HB2.out]; have := HasB.at (HH.out.at List.mem_cons_self : HasB wh gt SS 31) 32; rw [this, HSS.out]; simp [RS.cells, u8s_len, HA2o.out.s.kl]
          have HQt : Hid (wh.rangeAt gt 0 KN) := Lib.hid (by have := (HH.out.at List.mem_cons_self : HasB wh gt SS 31); rw [HSS.out] at this; rw [HKN.out]; exact HasB.range3 (A := []) this rfl)
          have HQk : Hid (wh.heap[gk]? = some (.cells KN.toArray 22 (0, 0))) := Lib.hid (by rw [HKN.out, HL.out]; exact HH.out.at (by simp))
          have hek := HEk.out
          go_wp2_with (with_reducible refine stop_dst 93 rfl ?_)
          refine Stop.go ?_
          refine wpList_wanted (by rfl) (fun K hK => ?_)
          refine wp_load_mid 22 (.tmp 92) rfl gt 0 rfl KN _ HQt.out Try.underlying22 rfl HIkn.out ?_
          refine hK _ _ ?_
          clear hK K
          refine wpList_wanted (by rfl) (fun K hK => ?_)
          refine wp_load_row 22 (.tmp 5) rfl gk rfl 22 KN.toArray (0, 0) _ HQk.out Try.underlying22 rfl HIka.out ?_
          refine hK _ _ ?_
          clear hK K
          have HN : Hid (KnS w wh g A2 [(gk, (u8s A2.s.key).toArray, 22)]) := Lib.hid (HH.out.sub (fun x hx => by simp only [List.mem_singleton] at hx; subst hx; rw [HL.out]; simp))
          clear HH q1 HQt HQk
          go_wp2_with fail
          go_roundw
          case rel => exact ⟨k + 1, true, by omega, by go_num, rfl, Lib.hid ⟨_, HN.out, HB2.out⟩⟩
          case measure => simp [intOf]; omega
        | false =>
          have HPw := Lib.hid hpw
          clear HKs2 hpw
          cases hb with
          | true =>
            have hks := keys_step A f0 HFo.out.dl zok
            obtain ⟨A2, hA2⟩ : ∃ A2, A2 = (A.ask f0).done (A.askStep f0) zok := ⟨_, rfl⟩
            have HA2o : Hid A2.Ok := Lib.hid (by rw [hA2]; exact RA.done_ok HAo.out HPo.out zok)
            have HDon := Lib.hid (fun w h => done_any (A.ask f0) (A.askStep f0) zok g w h HAo.out HPo.out)
            rw [← hA2] at HDon
            unfold RP.val at HDon
            rw [← HPS.out] at HDon
            have HB2 : Hid (A2.s.has = true) := Lib.hid (by rw [hA2, hks.2.2.1, HPk.out, HHs.out]; rfl)
            have HL : Hid (A2.s.key = A.s.key) := Lib.hid (by rw [hA2, hks.2.2.2, HPk.out]; rfl)
            have hans := fun w h => answer_any A2 (List.replicate 64 0) true 24 #[] g w h HA2o.out ⟨rfl, by decide⟩ (fun args w => Try.call24 args w) (fun x w' _ => answer_zeroK x w')
            have hst := fun w h => state_any A2 g w h HA2o.out
            unfold RF.val at hans
            unfold RS.val at hst
            have hxo := RA.answer_ok HA2o.out (d := (List.replicate 64 0)) ⟨rfl, by decide⟩ true
            obtain ⟨CX, hCX⟩ : ∃ N, N = (A2.answer (List.replicate 64 0) true : RF).cells.toArray := ⟨_, rfl⟩
            have HICX : Hid ((Try.prog.info? 37).map (·.size) = some CX.size) := Lib.hid (by rw [hCX]; exact info_f hxo)
            have HOCX : Hid (zF.size = CX.size) := Lib.hid (by rw [hCX]; exact old_f hxo)
            have HECX : Hid (CX.all (·.oneCell') = true) := Lib.hid (by rw [hCX]; exact RF.one _)
            have HCX := Lib.hid hCX
            obtain ⟨SS, hSS⟩ : ∃ N, N = (A2.s : RS).cells.toArray := ⟨_, rfl⟩
            have HISS : Hid ((Try.prog.info? 31).map (·.size) = some SS.size) := Lib.hid (by rw [hSS, List.size_toArray, RS.len HA2o.out.s]; exact info_st)
            have HOSS : Hid ((#[Value.int .u8 0, Value.int .u8 0, Value.int .u8 0, Value.int .u8 0, Value.int .u8 0, Value.int .u8 0, Value.int .u8 0, Value.int .u8 0, Value.int .u8 0, Value.int .u8 0, Value.int .u8 0, Value.int .u8 0, Value.int .u8 0, Value.int .u8 0, Value.int .u8 0, Value.int .u8 0, Value.int .u8 0, Value.int .u8 0, Value.int .u8 0, Value.int .u8 0, Value.int .u8 0, Value.int .u8 0, Value.int .u8 0, Value.int .u8 0, Value.int .u8 0, Value.int .u8 0, Value.int .u8 0, Value.int .u8 0, Value.int .u8 0, Value.int .u8 0, Value.int .u8 0, Value.int .u8 0, .bool false, .int .u32 0] : Array Value).size = SS.size) := Lib.hid (by rw [show SS.size = 34 by rw [hSS, List.size_toArray, RS.len HA2o.out.s]]; rfl)
            have HESS : Hid (SS.all (·.oneCell') = true) := Lib.hid (by rw [hSS]; exact RS.one _)
            have HSS := Lib.hid hSS
            rw [← hCX] at hans
            rw [← hSS] at hst
            have HAns := Lib.hid hans
            have HSt := Lib.hid hst
            obtain ⟨KN, hKN⟩ : ∃ KN, KN = u8s A2.s.key := ⟨_, rfl⟩
            have HKN := Lib.hid hKN
            have HIkn : Hid ((Try.prog.info? 22).map (·.size) = some KN.length) := Lib.hid (by rw [hKN, u8s_len, HA2o.out.s.kl]; exact info_k32)
            have HIka : Hid ((Try.prog.info? 22).map (·.size) = some KN.toArray.size) := Lib.hid (by rw [hKN, List.size_toArray, u8s_len, HA2o.out.s.kl]; exact info_k32)
            have hek := fun w => equalIn_u8s 9998 22 32 Try.underlying22 HA2o.out.s.kb HA2o.out.s.kb HA2o.out.s.kl HA2o.out.s.kl w
            simp only [decide_true] at hek
            rw [← hKN] at hek
            have HEk := Lib.hid hek
            have c0 : w7.cell? ⟨gs, 0, none⟩ = some (.bool false) := by have := HasB.at (H7.out.at List.mem_cons_self : HasB w7 gs PS 43) 0; rw [this, HPS.out, ← HPk.out]; rfl
            have c1 : w7.cell? ⟨gs, 1, none⟩ = some (.bool false) := by have := HasB.at (H7.out.at List.mem_cons_self : HasB w7 gs PS 43) 1; rw [this, HPS.out, ← HPw.out]; rfl
            have hok7 := HOkc.out w7 H7.out.be
            clear hks hA2 hans hst hxo hCX hSS hKN hek
            have H8 : Hid (KnS w w7 g (A.ask f0) [(gk, (u8s A.s.key).toArray, 22), (gs, PS, 43), (gf, C0, 37)]) := Lib.hid (H7.out.sub (fun x hx => by
              simp only [List.mem_cons, List.not_mem_nil, or_false] at hx ⊢
              rcases hx with rfl | rfl | rfl
              · exact .inr (.inr rfl)
              · exact .inl rfl
              · exact .inr (.inl rfl)))
            clear H7
            have HQs : Hid (w7.heap[gs]? = some (.cells PS 43 (0, 0))) := Lib.hid (H8.out.at (by simp))
            have HQc : Hid (w7.cell? ⟨b, off + k * 220 + 153, none⟩ = some (.bool zok)) := Lib.hid (HOkc.out w7 H8.out.be)
            go_wp2_with fail
            refine wp_region_held_drew (S := (fun w' => w'.heap[gs]? = some (.cells PS 43 (0, 0)) ∧ w'.cell? ⟨b, off + k * 220 + 153, none⟩ = some (.bool zok))) (by kernel_rfl) (⟨HQs.out, HQc.out⟩) (fun hHeld => ?_)
            refine held_take 0 (v := ?_) rfl (by kernel_rfl) (by kernel_rfl) (by kernel_rfl) (fun _ _ _ h => h) (by rfl) (fun w hS => ?_) (by assumption) ?_
            rotate_left
            · try dsimp only at hS
              have l1 := hS.2
              go_simp <;> with_reducible rfl
            try simp only [Act.put, List.setIfInBounds_toArray, List.set_cons_zero, List.set_cons_succ]
            refine held_take 1 (v := (.agg PS)) rfl (by kernel_rfl) (by kernel_rfl) (by kernel_rfl) (fun _ _ _ h => h) (by rfl) (fun w hS => ?_) (by assumption) ?_
            · exact yield_row _ _ 43 (.tmp 9) (by rfl) gs (by rfl) 43 PS (0, 0) _ hS.1 Try.underlying43 (by rfl) HIPS.out
            try simp only [Act.put, List.setIfInBounds_toArray, List.set_cons_zero, List.set_cons_succ]
            refine held_take 2 (v := ?_) rfl (by kernel_rfl) (by kernel_rfl) (by kernel_rfl) (fun _ _ _ h => h) (by rfl) (fun w hS => ?_) (by assumption) ?_
            rotate_left
            · try dsimp only at hS
              have l1 := hS.2
              go_simp <;> with_reducible rfl
            try simp only [Act.put, List.setIfInBounds_toArray, List.set_cons_zero, List.set_cons_succ]
            refine held_take 3 (v := ?_) rfl (by kernel_rfl) (by kernel_rfl) (by kernel_rfl) (fun _ _ _ h => h) (by rfl) (fun w hS => ?_) (by assumption) ?_
            rotate_left
            · try dsimp only at hS
              have l1 := hS.2
              go_simp <;> with_reducible rfl
            try simp only [Act.put, List.setIfInBounds_toArray, List.set_cons_zero, List.set_cons_succ]
            refine held_take 4 (v := ?_) rfl (by kernel_rfl) (by kernel_rfl) (by kernel_rfl) (fun _ _ _ h => h) (by rfl) (fun w hS => ?_) (by assumption) ?_
            rotate_left
            · try dsimp only at hS
              have l1 := hS.2
              go_simp <;> with_reducible rfl
            try simp only [Act.put, List.setIfInBounds_toArray, List.set_cons_zero, List.set_cons_succ]
            refine held_take 5 (v := ?_) rfl (by kernel_rfl) (by kernel_rfl) (by kernel_rfl) (fun _ _ _ h => h) (by rfl) (fun w hS => ?_) (by assumption) ?_
            rotate_left
            · try dsimp only at hS
              have l1 := hS.2
              go_simp <;> with_reducible rfl
            try simp only [Act.put, List.setIfInBounds_toArray, List.set_cons_zero, List.set_cons_succ]
            refine held_take 6 (v := ?_) rfl (by kernel_rfl) (by kernel_rfl) (by kernel_rfl) (fun _ _ _ h => h) (by rfl) (fun w hS => ?_) (by assumption) ?_
            rotate_left
            · try dsimp only at hS
              have l1 := hS.2
              go_simp <;> with_reducible rfl
            try simp only [Act.put, List.setIfInBounds_toArray, List.set_cons_zero, List.set_cons_succ]
            refine held_one 7 rfl (by kernel_rfl) (fun K hK => ?_)
            go_simp
            refine (HDon.out _ (H8.out.area.below (Below.refl _ _).drew)).mono ?_
            rintro e wd ⟨rfl, hA9, hg9⟩
            have HD : Hid (KnS w wd g A2 [(gk, (u8s A.s.key).toArray, 22), (gs, PS, 43), (gf, C0, 37)]) := Lib.hid ((H8.out.below (Below.refl _ _).drew).call hA9 HA2o.out hg9)
            clear hA9 hg9
            refine hK.out _ _ (fun w' => w'.heap[gs]? = some (.cells PS 43 (0, 0)) ∧ w'.cell? ⟨b, off + k * 220 + 153, none⟩ = some (.bool zok)) (fun _ h => h) ⟨HD.out.at (by simp), HOkc.out wd HD.out.be⟩ (fun hHeld => ?_)
            clear hK K
            try simp only [Act.put, List.setIfInBounds_toArray, List.set_cons_zero, List.set_cons_succ]
            refine held_done (by kernel_rfl) ?_
            clear HQs HQc H8
            go_wp2_with fail
            refine (HAns.out wd HD.out.area).mono ?_
            rintro e we ⟨rfl, hb⟩
            have HE := Lib.hid (HD.out.below hb)
            clear hb HD
            go_wp2_with (first | (with_reducible refine wpList_store_row rfl 37 (.tmp 11) (.tmp 84) rfl we.heap.size CX rfl rfl 37 zF (heap_new we _) HICX.out HOCX.out HECX.out ?_; rw [World.setRow_alloc_new]; refine Stop.mk ?_))
            refine Stop.go ?_
            have HF : Hid (KnS w (we.alloc (.cells CX 37)) g A2 [(we.heap.size, CX, 37), (gk, (u8s A.s.key).toArray, 22), (gs, PS, 43), (gf, C0, 37)]) := Lib.hid (HE.out.made CX _)
            generalize we.alloc (.cells CX 37) = wf at HF ⊢
            obtain ⟨gx, hgx⟩ : ∃ g, g = we.heap.size := ⟨_, rfl⟩
            rw [← hgx] at HF ⊢
            clear hgx HE
            go_wp2_with fail
            refine (HSt.out wf HF.out.area).mono ?_
            rintro e wg ⟨rfl, hb⟩
            have HG := Lib.hid (HF.out.below hb)
            clear hb HF
            go_wp2_with (first | (with_reducible refine wpList_store_row rfl 31 (.tmp 12) (.tmp 86) rfl wg.heap.size SS rfl rfl 31 #[Value.int .u8 0, Value.int .u8 0, Value.int .u8 0, Value.int .u8 0, Value.int .u8 0, Value.int .u8 0, Value.int .u8 0, Value.int .u8 0, Value.int .u8 0, Value.int .u8 0, Value.int .u8 0, Value.int .u8 0, Value.int .u8 0, Value.int .u8 0, Value.int .u8 0, Value.int .u8 0, Value.int .u8 0, Value.int .u8 0, Value.int .u8 0, Value.int .u8 0, Value.int .u8 0, Value.int .u8 0, Value.int .u8 0, Value.int .u8 0, Value.int .u8 0, Value.int .u8 0, Value.int .u8 0, Value.int .u8 0, Value.int .u8 0, Value.int .u8 0, Value.int .u8 0, Value.int .u8 0, .bool false, .int .u32 0] (heap_new wg _) HISS.out HOSS.out HESS.out ?_; rw [World.setRow_alloc_new]; refine Stop.mk ?_))
            refine Stop.go ?_
            have HH : Hid (KnS w (wg.alloc (.cells SS 31)) g A2 [(wg.heap.size, SS, 31), (gx, CX, 37), (gk, (u8s A.s.key).toArray, 22), (gs, PS, 43), (gf, C0, 37)]) := Lib.hid (HG.out.made SS _)
            generalize wg.alloc (.cells SS 31) = wh at HH ⊢
            obtain ⟨gt, hgt⟩ : ∃ g, g = wg.heap.size := ⟨_, rfl⟩
            rw [← hgt] at HH ⊢
            clear hgt HG
            have q1 : wh.cell? ⟨gt, 32, none⟩ = some (.bool true) := by rw [← HB2.out]; have := HasB.at (HH.out.at List.mem_cons_self : HasB wh gt SS 31) 32; rw [this, HSS.out]; simp [RS.cells, u8s_len, HA2o.out.s.kl]
            have HQt : Hid (wh.rangeAt gt 0 KN) := Lib.hid (by have := (HH.out.at List.mem_cons_self : HasB wh gt SS 31); rw [HSS.out] at this; rw [HKN.out]; exact HasB.range3 (A := []) this rfl)
            have HQk : Hid (wh.heap[gk]? = some (.cells KN.toArray 22 (0, 0))) := Lib.hid (by rw [HKN.out, HL.out]; exact HH.out.at (by simp))
            have hek := HEk.out
            go_wp2_with (with_reducible refine stop_dst 93 rfl ?_)
            refine Stop.go ?_
            refine wpList_wanted (by rfl) (fun K hK => ?_)
            refine wp_load_mid 22 (.tmp 92) rfl gt 0 rfl KN _ HQt.out Try.underlying22 rfl HIkn.out ?_
            refine hK _ _ ?_
            clear hK K
            refine wpList_wanted (by rfl) (fun K hK => ?_)
            refine wp_load_row 22 (.tmp 5) rfl gk rfl 22 KN.toArray (0, 0) _ HQk.out Try.underlying22 rfl HIka.out ?_
            refine hK _ _ ?_
            clear hK K
            have HN : Hid (KnS w wh g A2 [(gk, (u8s A2.s.key).toArray, 22)]) := Lib.hid (HH.out.sub (fun x hx => by simp only [List.mem_singleton] at hx; subst hx; rw [HL.out]; simp))
            clear HH q1 HQt HQk
            go_wp2_with fail
            go_roundw
            case rel => exact ⟨k + 1, true, by omega, by go_num, rfl, Lib.hid ⟨_, HN.out, HB2.out⟩⟩
            case measure => simp [intOf]; omega
          | false =>
            have hks := keys_step A f0 HFo.out.dl zok
            obtain ⟨A2, hA2⟩ : ∃ A2, A2 = (A.ask f0).done (A.askStep f0) zok := ⟨_, rfl⟩
            have HA2o : Hid A2.Ok := Lib.hid (by rw [hA2]; exact RA.done_ok HAo.out HPo.out zok)
            have HDon := Lib.hid (fun w h => done_any (A.ask f0) (A.askStep f0) zok g w h HAo.out HPo.out)
            rw [← hA2] at HDon
            unfold RP.val at HDon
            rw [← HPS.out] at HDon
            have HB2 : Hid (A2.s.has = false) := Lib.hid (by rw [hA2, hks.2.2.1, HPk.out, HHs.out]; rfl)
            have HL : Hid (A2.s.key = A.s.key) := Lib.hid (by rw [hA2, hks.2.2.2, HPk.out]; rfl)
            have hans := fun w h => answer_any A2 (List.replicate 64 0) true 24 #[] g w h HA2o.out ⟨rfl, by decide⟩ (fun args w => Try.call24 args w) (fun x w' _ => answer_zeroK x w')
            have hst := fun w h => state_any A2 g w h HA2o.out
            unfold RF.val at hans
            unfold RS.val at hst
            have hxo := RA.answer_ok HA2o.out (d := (List.replicate 64 0)) ⟨rfl, by decide⟩ true
            obtain ⟨CX, hCX⟩ : ∃ N, N = (A2.answer (List.replicate 64 0) true : RF).cells.toArray := ⟨_, rfl⟩
            have HICX : Hid ((Try.prog.info? 37).map (·.size) = some CX.size) := Lib.hid (by rw [hCX]; exact info_f hxo)
            have HOCX : Hid (zF.size = CX.size) := Lib.hid (by rw [hCX]; exact old_f hxo)
            have HECX : Hid (CX.all (·.oneCell') = true) := Lib.hid (by rw [hCX]; exact RF.one _)
            have HCX := Lib.hid hCX
            obtain ⟨SS, hSS⟩ : ∃ N, N = (A2.s : RS).cells.toArray := ⟨_, rfl⟩
            have HISS : Hid ((Try.prog.info? 31).map (·.size) = some SS.size) := Lib.hid (by rw [hSS, List.size_toArray, RS.len HA2o.out.s]; exact info_st)
            have HOSS : Hid ((#[Value.int .u8 0, Value.int .u8 0, Value.int .u8 0, Value.int .u8 0, Value.int .u8 0, Value.int .u8 0, Value.int .u8 0, Value.int .u8 0, Value.int .u8 0, Value.int .u8 0, Value.int .u8 0, Value.int .u8 0, Value.int .u8 0, Value.int .u8 0, Value.int .u8 0, Value.int .u8 0, Value.int .u8 0, Value.int .u8 0, Value.int .u8 0, Value.int .u8 0, Value.int .u8 0, Value.int .u8 0, Value.int .u8 0, Value.int .u8 0, Value.int .u8 0, Value.int .u8 0, Value.int .u8 0, Value.int .u8 0, Value.int .u8 0, Value.int .u8 0, Value.int .u8 0, Value.int .u8 0, .bool false, .int .u32 0] : Array Value).size = SS.size) := Lib.hid (by rw [show SS.size = 34 by rw [hSS, List.size_toArray, RS.len HA2o.out.s]]; rfl)
            have HESS : Hid (SS.all (·.oneCell') = true) := Lib.hid (by rw [hSS]; exact RS.one _)
            have HSS := Lib.hid hSS
            rw [← hCX] at hans
            rw [← hSS] at hst
            have HAns := Lib.hid hans
            have HSt := Lib.hid hst
            have HTg : Hid ((A2.answer (List.replicate 64 0) true).tag = List.replicate 32 0) := Lib.hid (keyless_tag HB2.out _ _)
            obtain ⟨KN, hKN⟩ : ∃ KN, KN = u8s A2.s.key := ⟨_, rfl⟩
            have HKN := Lib.hid hKN
            have HIkn : Hid ((Try.prog.info? 22).map (·.size) = some KN.length) := Lib.hid (by rw [hKN, u8s_len, HA2o.out.s.kl]; exact info_k32)
            have HIka : Hid ((Try.prog.info? 22).map (·.size) = some KN.toArray.size) := Lib.hid (by rw [hKN, List.size_toArray, u8s_len, HA2o.out.s.kl]; exact info_k32)
            have hek := fun w => equalIn_u8s 9998 22 32 Try.underlying22 HA2o.out.s.kb HA2o.out.s.kb HA2o.out.s.kl HA2o.out.s.kl w
            simp only [decide_true] at hek
            rw [← hKN] at hek
            have HEk := Lib.hid hek
            have c0 : w7.cell? ⟨gs, 0, none⟩ = some (.bool false) := by have := HasB.at (H7.out.at List.mem_cons_self : HasB w7 gs PS 43) 0; rw [this, HPS.out, ← HPk.out]; rfl
            have c1 : w7.cell? ⟨gs, 1, none⟩ = some (.bool false) := by have := HasB.at (H7.out.at List.mem_cons_self : HasB w7 gs PS 43) 1; rw [this, HPS.out, ← HPw.out]; rfl
            have hok7 := HOkc.out w7 H7.out.be
            clear hks hA2 hans hst hxo hCX hSS hKN hek
            have H8 : Hid (KnS w w7 g (A.ask f0) [(gk, (u8s A.s.key).toArray, 22), (gs, PS, 43), (gf, C0, 37)]) := Lib.hid (H7.out.sub (fun x hx => by
              simp only [List.mem_cons, List.not_mem_nil, or_false] at hx ⊢
              rcases hx with rfl | rfl | rfl
              · exact .inr (.inr rfl)
              · exact .inl rfl
              · exact .inr (.inl rfl)))
            clear H7
            have HQs : Hid (w7.heap[gs]? = some (.cells PS 43 (0, 0))) := Lib.hid (H8.out.at (by simp))
            have HQc : Hid (w7.cell? ⟨b, off + k * 220 + 153, none⟩ = some (.bool zok)) := Lib.hid (HOkc.out w7 H8.out.be)
            go_wp2_with fail
            refine wp_region_held_drew (S := (fun w' => w'.heap[gs]? = some (.cells PS 43 (0, 0)) ∧ w'.cell? ⟨b, off + k * 220 + 153, none⟩ = some (.bool zok))) (by kernel_rfl) (⟨HQs.out, HQc.out⟩) (fun hHeld => ?_)
            refine held_take 0 (v := ?_) rfl (by kernel_rfl) (by kernel_rfl) (by kernel_rfl) (fun _ _ _ h => h) (by rfl) (fun w hS => ?_) (by assumption) ?_
            rotate_left
            · try dsimp only at hS
              have l1 := hS.2
              go_simp <;> with_reducible rfl
            try simp only [Act.put, List.setIfInBounds_toArray, List.set_cons_zero, List.set_cons_succ]
            refine held_take 1 (v := (.agg PS)) rfl (by kernel_rfl) (by kernel_rfl) (by kernel_rfl) (fun _ _ _ h => h) (by rfl) (fun w hS => ?_) (by assumption) ?_
            · exact yield_row _ _ 43 (.tmp 9) (by rfl) gs (by rfl) 43 PS (0, 0) _ hS.1 Try.underlying43 (by rfl) HIPS.out
            try simp only [Act.put, List.setIfInBounds_toArray, List.set_cons_zero, List.set_cons_succ]
            refine held_take 2 (v := ?_) rfl (by kernel_rfl) (by kernel_rfl) (by kernel_rfl) (fun _ _ _ h => h) (by rfl) (fun w hS => ?_) (by assumption) ?_
            rotate_left
            · try dsimp only at hS
              have l1 := hS.2
              go_simp <;> with_reducible rfl
            try simp only [Act.put, List.setIfInBounds_toArray, List.set_cons_zero, List.set_cons_succ]
            refine held_take 3 (v := ?_) rfl (by kernel_rfl) (by kernel_rfl) (by kernel_rfl) (fun _ _ _ h => h) (by rfl) (fun w hS => ?_) (by assumption) ?_
            rotate_left
            · try dsimp only at hS
              have l1 := hS.2
              go_simp <;> with_reducible rfl
            try simp only [Act.put, List.setIfInBounds_toArray, List.set_cons_zero, List.set_cons_succ]
            refine held_take 4 (v := ?_) rfl (by kernel_rfl) (by kernel_rfl) (by kernel_rfl) (fun _ _ _ h => h) (by rfl) (fun w hS => ?_) (by assumption) ?_
            rotate_left
            · try dsimp only at hS
              have l1 := hS.2
              go_simp <;> with_reducible rfl
            try simp only [Act.put, List.setIfInBounds_toArray, List.set_cons_zero, List.set_cons_succ]
            refine held_take 5 (v := ?_) rfl (by kernel_rfl) (by kernel_rfl) (by kernel_rfl) (fun _ _ _ h => h) (by rfl) (fun w hS => ?_) (by assumption) ?_
            rotate_left
            · try dsimp only at hS
              have l1 := hS.2
              go_simp <;> with_reducible rfl
            try simp only [Act.put, List.setIfInBounds_toArray, List.set_cons_zero, List.set_cons_succ]
            refine held_take 6 (v := ?_) rfl (by kernel_rfl) (by kernel_rfl) (by kernel_rfl) (fun _ _ _ h => h) (by rfl) (fun w hS => ?_) (by assumption) ?_
            rotate_left
            · try dsimp only at hS
              have l1 := hS.2
              go_simp <;> with_reducible rfl
            try simp only [Act.put, List.setIfInBounds_toArray, List.set_cons_zero, List.set_cons_succ]
            refine held_one 7 rfl (by kernel_rfl) (fun K hK => ?_)
            go_simp
            refine (HDon.out _ (H8.out.area.below (Below.refl _ _).drew)).mono ?_
            rintro e wd ⟨rfl, hA9, hg9⟩
            have HD : Hid (KnS w wd g A2 [(gk, (u8s A.s.key).toArray, 22), (gs, PS, 43), (gf, C0, 37)]) := Lib.hid ((H8.out.below (Below.refl _ _).drew).call hA9 HA2o.out hg9)
            clear hA9 hg9
            refine hK.out _ _ (fun w' => w'.heap[gs]? = some (.cells PS 43 (0, 0)) ∧ w'.cell? ⟨b, off + k * 220 + 153, none⟩ = some (.bool zok)) (fun _ h => h) ⟨HD.out.at (by simp), HOkc.out wd HD.out.be⟩ (fun hHeld => ?_)
            clear hK K
            try simp only [Act.put, List.setIfInBounds_toArray, List.set_cons_zero, List.set_cons_succ]
            refine held_done (by kernel_rfl) ?_
            clear HQs HQc H8
            go_wp2_with fail
            refine (HAns.out wd HD.out.area).mono ?_
            rintro e we ⟨rfl, hb⟩
            have HE := Lib.hid (HD.out.below hb)
            clear hb HD
            go_wp2_with (first | (with_reducible refine wpList_store_row rfl 37 (.tmp 11) (.tmp 84) rfl we.heap.size CX rfl rfl 37 zF (heap_new we _) HICX.out HOCX.out HECX.out ?_; rw [World.setRow_alloc_new]; refine Stop.mk ?_))
            refine Stop.go ?_
            have HF : Hid (KnS w (we.alloc (.cells CX 37)) g A2 [(we.heap.size, CX, 37), (gk, (u8s A.s.key).toArray, 22), (gs, PS, 43), (gf, C0, 37)]) := Lib.hid (HE.out.made CX _)
            generalize we.alloc (.cells CX 37) = wf at HF ⊢
            obtain ⟨gx, hgx⟩ : ∃ g, g = we.heap.size := ⟨_, rfl⟩
            rw [← hgx] at HF ⊢
            clear hgx HE
            go_wp2_with fail
            refine (HSt.out wf HF.out.area).mono ?_
            rintro e wg ⟨rfl, hb⟩
            have HG := Lib.hid (HF.out.below hb)
            clear hb HF
            go_wp2_with (first | (with_reducible refine wpList_store_row rfl 31 (.tmp 12) (.tmp 86) rfl wg.heap.size SS rfl rfl 31 #[Value.int .u8 0, Value.int .u8 0, Value.int .u8 0, Value.int .u8 0, Value.int .u8 0, Value.int .u8 0, Value.int .u8 0, Value.int .u8 0, Value.int .u8 0, Value.int .u8 0, Value.int .u8 0, Value.int .u8 0, Value.int .u8 0, Value.int .u8 0, Value.int .u8 0, Value.int .u8 0, Value.int .u8 0, Value.int .u8 0, Value.int .u8 0, Value.int .u8 0, Value.int .u8 0, Value.int .u8 0, Value.int .u8 0, Value.int .u8 0, Value.int .u8 0, Value.int .u8 0, Value.int .u8 0, Value.int .u8 0, Value.int .u8 0, Value.int .u8 0, Value.int .u8 0, Value.int .u8 0, .bool false, .int .u32 0] (heap_new wg _) HISS.out HOSS.out HESS.out ?_; rw [World.setRow_alloc_new]; refine Stop.mk ?_))
            refine Stop.go ?_
            have HH : Hid (KnS w (wg.alloc (.cells SS 31)) g A2 [(wg.heap.size, SS, 31), (gx, CX, 37), (gk, (u8s A.s.key).toArray, 22), (gs, PS, 43), (gf, C0, 37)]) := Lib.hid (HG.out.made SS _)
            generalize wg.alloc (.cells SS 31) = wh at HH ⊢
            obtain ⟨gt, hgt⟩ : ∃ g, g = wg.heap.size := ⟨_, rfl⟩
            rw [← hgt] at HH ⊢
            clear hgt HG
            have q1 : wh.cell? ⟨gt, 32, none⟩ = some (.bool false) := by rw [← HB2.out]; have := HasB.at (HH.out.at List.mem_cons_self : HasB wh gt SS 31) 32; rw [this, HSS.out]; simp [RS.cells, u8s_len, HA2o.out.s.kl]
            have HQt : Hid (wh.rangeAt gt 0 KN) := Lib.hid (by have := (HH.out.at List.mem_cons_self : HasB wh gt SS 31); rw [HSS.out] at this; rw [HKN.out]; exact HasB.range3 (A := []) this rfl)
            have HQk : Hid (wh.heap[gk]? = some (.cells KN.toArray 22 (0, 0))) := Lib.hid (by rw [HKN.out, HL.out]; exact HH.out.at (by simp))
            have hek := HEk.out
            go_wp2_with (with_reducible refine stop_dst 93 rfl ?_)
            refine Stop.go ?_
            refine wpList_wanted (by rfl) (fun K hK => ?_)
            refine wp_load_mid 22 (.tmp 92) rfl gt 0 rfl KN _ HQt.out Try.underlying22 rfl HIkn.out ?_
            refine hK _ _ ?_
            clear hK K
            refine wpList_wanted (by rfl) (fun K hK => ?_)
            refine wp_load_row 22 (.tmp 5) rfl gk rfl 22 KN.toArray (0, 0) _ HQk.out Try.underlying22 rfl HIka.out ?_
            refine hK _ _ ?_
            clear hK K
            obtain ⟨ZL, hZL⟩ : ∃ ZL, ZL = u8s (List.replicate 32 0) := ⟨_, rfl⟩
            have hz32 := neq_zero32
            rw [← hZL] at hz32
            have HQx : Hid (wh.rangeAt gx 0 ZL) := Lib.hid (by have := (HH.out.at (k := gx) (C := CX) (T := 37) (by simp)); rw [HCX.out] at this; rw [hZL, ← HTg.out]; exact RF.tag_at this)
            have HIzl : Hid ((Try.prog.info? 33).map (·.size) = some ZL.length) := Lib.hid (by rw [hZL]; exact info_s32)
            clear hZL
            go_wp2_with (with_reducible refine stop_dst 102 rfl ?_)
            refine Stop.go ?_
            refine wpList_wanted (by rfl) (fun K hK => ?_)
            refine wp_load_mid 33 (.tmp 101) rfl gx 0 rfl ZL _ HQx.out Try.underlying33 rfl HIzl.out ?_
            refine hK _ _ ?_
            clear hK K
            have HN : Hid (KnS w wh g A2 [(gk, (u8s A2.s.key).toArray, 22)]) := Lib.hid (HH.out.sub (fun x hx => by simp only [List.mem_singleton] at hx; subst hx; rw [HL.out]; simp))
            clear HH q1 HQt HQk
            go_wp2_with fail
            go_roundw
            case rel => exact ⟨k + 1, false, by omega, by go_num, rfl, Lib.hid ⟨_, HN.out, HB2.out⟩⟩
            case measure => simp [intOf]; omega
    · obtain rfl : k = n := by omega
      obtain ⟨A, hKn, hhs⟩ := HI.out
      have hbe := hKn.be
      have HBf := Lib.hid hbe
      clear HI hKn hbe hhs
      go_wp2_with fail
      rw [HPOST.out]
      exact ⟨rfl, HBf.out⟩
end Go.Proofs.Ytkdjimcpdbpemaa
