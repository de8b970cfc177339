/- token: TokenJoins. -/
import Derived.Test.YtjadkfgkidejbaaTokM
namespace Go.Proofs.Ytjadkfgkidejbaa
open Go.RowKit
set_option linter.unusedVariables false

theorem u8size : (Try.prog.info? 5).map (·.size) = some 1 := by kernel_rfl

theorem own_facts {w : World} {base : Nat} {e : TypeId} {v : Value} {n : Nat} {l : List Nat} (h : w.ownsRow base e 1 v n (u8s l)) (hl : ∀ c ∈ l, c < 256) : ∃ a cap, v = .slice a n cap ∧ Bytes w a n l ∧ (a = none → cap = 0) ∧ n ≤ cap ∧ cap ≤ maxLen := by
  rcases h.2 with ⟨rfl, h0⟩ | ⟨g, cap, cur, rfl, hg, _, h1, h2, _⟩
  · subst h0
    exact ⟨none, 0, rfl, ⟨by simpa [u8s] using h.1, hl, fun h => by omega⟩, fun _ => rfl, Nat.le_refl _, Nat.zero_le _⟩
  · exact ⟨some ⟨g, 0, none⟩, cap, rfl, bytes_of_own h hl, fun h => by simp at h, h1, h2⟩
theorem joinTo_lt (ls : List (List Nat)) (k : Nat) (h : ∀ x ∈ ls, ∀ c ∈ x, c < 256) : ∀ c ∈ joinTo ls k, c < 256 := by
  intro c hc
  unfold joinTo at hc
  rw [List.mem_flatMap] at hc
  obtain ⟨x, hx, hc⟩ := hc
  exact layL_lt x (h x (List.mem_of_mem_take hx)) c hc
/-- How often Each calls. -/
theorem each_count {n j : Nat} {stop : Int} (hj : j ≤ n) (ho : j = n ∨ ∃ i : Nat, j = i + 1 ∧ decide ((i : Int) + 1 ≤ stop) = false) (hg : ∀ i : Nat, i + 1 < j → decide ((i : Int) + 1 ≤ stop) = true) :
    (stop < 0 ∧ 1 < n ∧ j = 1) ∨ (stop < 0 ∧ n ≤ 1 ∧ j = n) ∨ (0 ≤ stop ∧ stop < n ∧ (j : Int) = stop + 1) ∨ (0 ≤ stop ∧ ¬ stop < n ∧ j = n) := by
  have hg2 : ∀ i : Nat, i + 1 < j → (i : Int) + 1 ≤ stop := fun i hi => of_decide_eq_true (hg i hi)
  have ho2 : j = n ∨ ∃ i : Nat, j = i + 1 ∧ ¬ ((i : Int) + 1 ≤ stop) := by
    rcases ho with h | ⟨i, h1, h2⟩
    · exact .inl h
    · exact .inr ⟨i, h1, of_decide_eq_false h2⟩
  rcases ho2 with h | ⟨i, h1, h2⟩
  · by_cases hs : stop < 0
    · by_cases h1 : 1 < n
      · have := hg2 0 (by omega); omega
      · omega
    · by_cases h1 : stop < n
      · refine .inr (.inr (.inl ⟨by omega, h1, ?_⟩))
        by_cases h2 : 2 ≤ j
        · have := hg2 (j - 2) (by omega); omega
        · omega
      · omega
  · by_cases h3 : 2 ≤ j
    · have := hg2 (j - 2) (by omega); omega
    · omega

set_option maxRecDepth 100000 in
set_option maxHeartbeats 40000000 in
theorem tjoins_walk (a : Option Addr) (n cap : Nat) (ls : List (List Nat)) (sz : Nat) (stop : Int) (w : World) (hR : RowsR w a ls) (hn : ls.length = n) (hls : ∀ x ∈ ls, ∀ c ∈ x, c < 256) (hn60 : n ≤ 60) (hsz : sz ≤ 200) (hst : I64 stop) :
    Calls Try.prog 3 #[.slice a n cap, .int .i64 (sz : Int), .int .i64 stop] w fun e w' => e = .returned (.bool true) ∧ Below w.heap.size w w' := by
  have HR := Lib.hid hR
  have HN := Lib.hid hn
  have HLS := Lib.hid hls
  have t1 : (n : Int) ≤ 60 := by omega
  have t2 : (sz : Int) ≤ 200 := by omega
  have t3 : (0 : Int) ≤ (sz : Int) := by omega
  unfold I64 at hst
  have hb0 : Below w.heap.size w (w.alloc (.cells #[.int .i64 stop] 3)) := (Below.refl _ _).alloc (Nat.le_refl _) _
  have hs0 : (w.alloc (.cells #[.int .i64 stop] 3)).heap[w.heap.size]? = some (.cells #[.int .i64 stop] 3 (0, 0)) := heap_alloc_new w _
  have HB0 := Lib.hid hb0
  have HS0 := Lib.hid hs0
  clear hR hn hls hb0 hs0
  go_enter Try.func3, Try.ntmps3
  go_wp2_with fail
  refine (tknown_any _).mono ?_
  rintro e w1 ⟨rfl, hb1⟩
  have hsz1 : w.heap.size < w1.heap.size := by have := hb1.size; simp at this; omega
  have HB1 : Hid (Below w.heap.size w w1) := Lib.hid (HB0.out.trans (hb1.mono (by simp)))
  have HS1 : Hid (w1.heap[w.heap.size]? = some (.cells #[.int .i64 stop] 3 (0, 0))) := Lib.hid ((hb1.block w.heap.size (by simp)).trans HS0.out)
  clear hb1 HB0 HS0
  go_wp2_with fail
  go_loopw [8] (fun i wr => ∃ (k : Nat) (v : Value), k ≤ n ∧ i = .int .i64 (k : Int) ∧ Hid (wr.heap[w1.heap.size]? = some (.cells #[v] 22 (0, 0))) ∧ Hid (RowsZ (w1.heap.size + 1) 24 wr v ((ls.map (fitB sz)).take k)) ∧ Hid (Below w1.heap.size w1 wr)) (fun i _ => n - (intOf i).toNat)
  case atStart => exact ⟨0, .slice none 0 0, by omega, rfl, Lib.hid (heap_alloc_new w1 _), Lib.hid (RowsZ.nil _ _ _), Lib.hid ((Below.refl _ _).alloc (Nat.le_refl _) _)⟩
  case round =>
    obtain ⟨k, v, hk, rfl, HBox, HRows, HB⟩ := hrel
    obtain ⟨wo, rfl⟩ : ∃ wo : World, wo = wr := ⟨_, rfl⟩
    have HBW : Hid (Below w.heap.size w wo) := Lib.hid (HB1.out.trans (HB.out.mono (by omega)))
    have hga := lt_of_block HBox.out
    by_cases hlt : k < n
    · have hkl : k < ls.length := by rw [HN.out]; exact hlt
      obtain ⟨x, hx⟩ : ∃ x, ls[k]? = some x := ⟨_, List.getElem?_eq_getElem hkl⟩
      have hxm : x ∈ ls := by rw [← (List.getElem?_eq_some_iff.1 hx).2]; exact List.getElem_mem _
      obtain ⟨g, off, b, cp, rfl, hg, hc, hy, hnil, _, _⟩ := (HR.out.below HBW.out) k x hx
      have HY := Lib.hid hy
      have HFit : Hid ((ls.map (fitB sz)).take k ++ [fitB sz x] = (ls.map (fitB sz)).take (k + 1)) := Lib.hid (by
        rw [List.take_succ_eq_append_getElem (by simpa using hkl)]
        simp [(List.getElem?_eq_some_iff.1 hx).2])
      have HLt := Lib.hid (fitB_lt sz x (HLS.out x hxm))
      have HTl : Hid (((ls.map (fitB sz)).take k).length ≤ 1000000) := Lib.hid (by simp; omega)
      have t10 : (k : Int) < (n : Int) := by omega
      have t11 : (0 : Int) ≤ (k : Int) := by omega
      have t12 : ((k : Int)).toNat = k := by omega
      have HCell := Lib.hid hc
      obtain ⟨m, hm⟩ : ∃ m, m = x.length := ⟨_, rfl⟩
      rw [← hm] at HCell HY
      clear hx hxm hy hc hm
      go_wp2_with (first | (at_make; refine Stop.mk ?_) | (at_builtin; refine Stop.mk ?_))
      refine Stop.go ?_
      refine wpList_make_u8 rfl _ _ 24 rfl wo.heap.size 5 Try.underlying24 Try.infoU8 sz rfl rfl (by omega) (Nat.le_refl _) ?_
      intro w2 hown2 hgrow2
      have hrow2 := own_full hown2
      have hb2 : Below wo.heap.size wo w2 := (Below.refl _ _).grown hgrow2 (Nat.le_refl _) (fun k hk => by simp at hk)
      have hc2 : w2.cell? ⟨g, off + k, none⟩ = some (.slice b m cp) := (hb2.cell (p := ⟨g, off + k, none⟩) hg).trans HCell.out
      have HRow2 := Lib.hid hrow2
      have HB2 := Lib.hid hb2
      have hs2 : wo.heap.size < w2.heap.size := lt_of_block hrow2
      clear hown2 hgrow2 hrow2 hb2
      have hy2 := HY.out.below HB2.out (Nat.le_refl _)
      have HY2 := Lib.hid hy2
      have HRep : Hid (sz = (List.replicate sz 0).length) := Lib.hid (by simp)
      clear hy2
      go_wp2_with (with_reducible refine wpList_copy_u8 rfl (.tmp 38) (.tmp 42) 24 24 rfl 5 Try.underlying24 u8size b sz sz m cp wo.heap.size rfl rfl (List.replicate sz 0) 5 HRow2.out HRep.out x HY2.out wo.heap.size w2 (Below.refl _ _) (Nat.le_refl _) (fun w3 HRow3 hb3 => Stop.mk ?_))
      refine Stop.go ?_
      have hb23 : Below wo.heap.size wo w3 := HB2.out.trans hb3
      have HB23 := Lib.hid hb23
      have HRow3' : Hid (w3.heap[wo.heap.size]? = some (.cells (u8s (fitB sz x)).toArray 5 (0, 0))) := HRow3
      have hs3 := hb23.size
      have hs3' := lt_of_block HRow3'.out
      have cbox : w3.cell? ⟨w1.heap.size, 0, none⟩ = some v := cell_of_one ((hb23.block _ hga).trans HBox.out)
      have HRows3 := Lib.hid (HRows.out.below hb23)
      have HElem : Hid (ElemAt (w1.heap.size + 1) w3 v.ownBlock (fitB sz x) (.slice (some ⟨wo.heap.size, 0, none⟩) sz sz)) := Lib.hid ⟨some ⟨wo.heap.size, 0, none⟩, sz, by rw [fitB_len], by have := bytes_of_row HRow3'.out HLt.out; exact this, fun h => by simp at h, by rw [fitB_len]; exact Nat.le_refl _, fun _ ad h => by
        have h2 := Option.some.inj h
        rw [← h2]
        refine ⟨by show w1.heap.size + 1 ≤ wo.heap.size; omega, hs3', ?_⟩
        intro h3
        have := (HRows.out.at.lt _ h3.symm).2
        exact Nat.lt_irrefl _ this⟩
      clear hb3 hb23 HRow3
      go_wp2_with (first | (at_make; refine Stop.mk ?_) | (at_builtin; refine Stop.mk ?_))
      refine Stop.go ?_
      refine wpList_app_rowZ rfl _ _ 22 24 rfl Try.underlying22 infoRow (w1.heap.size + 1) v ((ls.map (fitB sz)).take k) rfl (HRows3.out.below ((Below.refl _ _).alloc (Nat.le_refl _) _)) w3.heap.size rfl (fitB sz x) (.slice (some ⟨wo.heap.size, 0, none⟩) sz sz) (by simp) (HElem.out.below ((Below.refl _ _).alloc (Nat.le_refl _) _)) (by show sz ≤ maxLen; unfold maxLen; omega) HTl.out (by simp; omega) ?_
      intro v' w4 hR4 hgrow4
      rw [HFit.out] at hR4
      have hne : some w1.heap.size ≠ v.ownBlock := by
        intro h
        have := (HRows3.out.at.lt _ h.symm).1
        omega
      have hbox4 : w4.heap[w1.heap.size]? = some (.cells #[v] 22 (0, 0)) := by
        rw [hgrow4.block _ (by simp; omega) hne, ((Below.refl w3.heap.size w3).alloc (Nat.le_refl _) _).block _ (by omega), HB23.out.block _ hga]
        exact HBox.out
      have hb4 : Below w1.heap.size w1 w4 := by
        have h1 : Below w1.heap.size w1 w3 := HB.out.trans (HB23.out.mono (by omega))
        exact (h1.alloc (by omega) _).grown hgrow4 (by simp; omega) (fun j hj => by have := (HRows3.out.at.lt j hj).1; omega)
      have c4 := cell_of_one hbox4
      have f4 := free_of_one hbox4
      obtain ⟨a5, c5, rfl⟩ := hR4.at.form
      have HR5 := Lib.hid (hR4.setLow (p := ⟨w1.heap.size, 0, none⟩) (by simp) (.slice a5 ((ls.map (fitB sz)).take (k + 1)).length c5))
      have HBox5 := Lib.hid (one_setCell (u := .slice a5 ((ls.map (fitB sz)).take (k + 1)).length c5) hbox4)
      have HB5 := Lib.hid (hb4.setCell (p := ⟨w1.heap.size, 0, none⟩) (Nat.le_refl _) (.slice a5 ((ls.map (fitB sz)).take (k + 1)).length c5))
      obtain ⟨q, hq⟩ : ∃ q, q = ((ls.map (fitB sz)).take (k + 1)).length := ⟨_, rfl⟩
      rw [← hq] at HR5 HBox5 HB5
      rw [← hq]
      clear hR4 hgrow4 hbox4 hb4 hne hq
      go_wp2
      go_roundw
      case rel => exact ⟨k + 1, _, by omega, by go_num, HBox5, HR5, HB5⟩
      case measure => simp [intOf]; omega
    · obtain rfl : k = n := by omega
      have HFl : Hid ((ls.map (fitB sz)).length = k) := Lib.hid (by rw [List.length_map]; exact HN.out)
      have hz := HRows.out
      rw [List.take_of_length_le (by rw [HFl.out]; exact Nat.le_refl _)] at hz
      have HFz : Hid (∀ x ∈ ls.map (fitB sz), x.length = sz) := Lib.hid (fun x hx => by
        simp only [List.mem_map] at hx
        obtain ⟨y, _, rfl⟩ := hx
        exact fitB_len sz y)
      have HF8 : Hid (∀ x ∈ ls.map (fitB sz), ∀ c ∈ x, c < 256) := Lib.hid (fun x hx => by
        simp only [List.mem_map] at hx
        obtain ⟨y, hy, rfl⟩ := hx
        exact fitB_lt sz y (HLS.out y hy))
      obtain ⟨fits, hfits⟩ : ∃ fits, fits = ls.map (fitB sz) := ⟨_, rfl⟩
      rw [← hfits] at hz HFl HFz HF8
      clear hfits
      obtain ⟨a5, c5, rfl, hR5⟩ := hz.reads
      have HR5 := Lib.hid hR5
      have HRz := Lib.hid hz
      have cbox := cell_of_one HBox.out
      rw [HFl.out] at cbox HRz
      rw [HFl.out] at HBox
      have hjl := joined_len sz fits HFz.out k HFl.out
      have hjb : k * (sz + 3) ≤ 60 * 203 := Nat.mul_le_mul hn60 (by omega)
      have hsp := split_joined sz (by omega) fits HFz.out
      rw [HFl.out, hjl] at hsp
      obtain ⟨J, hJ⟩ : ∃ J, J = k * (sz + 3) := ⟨_, rfl⟩
      rw [← hJ] at hjl hjb hsp
      have HJl := Lib.hid hjl
      have HSp := Lib.hid hsp
      have hszo := HBW.out.size
      clear hz hR5 hjl hsp hJ HRows
      go_wp2_with fail
      refine (join_any a5 k c5 fits wo HR5.out HFl.out (by omega) (fun x hx => by rw [HFz.out x hx]; omega) HF8.out (by rw [HJl.out]; omega)).mono ?_
      rintro e w5 ⟨⟨vj, rfl, hown5⟩, hb5⟩
      obtain ⟨aj, cj, rfl, hyj, hnj, hcj, hmj⟩ := own_facts hown5 (joinTo_lt fits k HF8.out)
      rw [HJl.out] at hyj hcj
      rw [HJl.out]
      have HYj := Lib.hid hyj
      have HB5 := Lib.hid hb5
      clear hown5 hyj hb5
      go_wp2_with fail
      refine (tsplit_any aj J cj (joinTo fits k) sz _ HYj.out hnj (by omega) hcj hmj).mono ?_
      rintro e w6 ⟨⟨v6, he, hR6⟩, hb6⟩
      rw [HSp.out] at he hR6
      subst he
      have hb56 : Below wo.heap.size wo w6 := HB5.out.trans (hb6.mono HB5.out.size)
      have HB56 := Lib.hid hb56
      have HR6 := Lib.hid hR6
      have cbox6 : w6.cell? ⟨w1.heap.size, 0, none⟩ = some (.slice a5 k c5) := (hb56.cell (p := ⟨w1.heap.size, 0, none⟩) hga).trans cbox
      have HRz6 := Lib.hid (HRz.out.at.below hb56)
      have HFl6 : Hid (fits.length ≤ 1000000) := Lib.hid (by rw [HFl.out]; omega)
      clear hb6 hR6 hb56
      go_wp2_with fail
      refine (rows_any v6 (.slice a5 k c5) fits _ HR6.out HRz6.out HFl6.out).mono ?_
      rintro e w7 ⟨rfl, hb7⟩
      have hb57 : Below wo.heap.size wo w7 := HB56.out.trans (hb7.mono HB56.out.size)
      have hsz57 := hb57.size
      have HB57 := Lib.hid hb57
      have hbox7 : w7.heap[w1.heap.size]? = some (.cells #[.slice a5 k c5] 22 (0, 0)) := (hb57.block _ hga).trans HBox.out
      have hst7 : w7.heap[w.heap.size]? = some (.cells #[.int .i64 stop] 3 (0, 0)) := ((hb57.block _ (by omega)).trans (HB.out.block _ hsz1)).trans HS1.out
      have HBox7 := Lib.hid hbox7
      have HSt7 := Lib.hid hst7
      have c7 := cell_of_one hbox7
      have hRR7 := HR5.out.below hb57
      have HE := Lib.hid (fun W hW => each_any 20 #[.pointer (some ⟨w7.heap.size + 1, 0, none⟩), .pointer (some ⟨w7.heap.size, 0, none⟩), .pointer (some ⟨w1.heap.size, 0, none⟩), .pointer (some ⟨w.heap.size, 0, none⟩)] (fun args w' => by go_simp) a5 k c5 fits HFl.out (by omega) (fun x hx => by rw [HFz.out x hx]; omega) (fun i => decide ((i : Int) + 1 ≤ stop)) (EachAt w7) (fun i w1 w2 h hb => h.below hb) (fun i w1 h => hRR7.below h.2.2)
        (fun i x v wi hx hI hv => by
          obtain ⟨b, cp, rfl, hy, hnil, _⟩ := hv
          exact eachStep_any w7 a5 k c5 fits HFl.out (by omega) hRR7 w1.heap.size w.heap.size stop HBox7.out HSt7.out i x.length x b cp wi hx rfl hI hy) W hW)
      have HE0 : Hid (EachAt w7 0 ((w7.alloc (.cells #[.int .i64 0] 3)).alloc (.cells #[.bool true] 4))) := Lib.hid ⟨heap_alloc2_old w7 _ _, heap_alloc2_new w7 _ _, ((Below.refl _ _).alloc (Nat.le_refl _) _).alloc (by simp) _⟩
      have hga7 : w1.heap.size < w7.heap.size := lt_of_block hbox7
      have c7a : ((w7.alloc (.cells #[.int .i64 0] 3)).alloc (.cells #[.bool true] 4)).cell? ⟨w1.heap.size, 0, none⟩ = some (.slice a5 k c5) := (HE0.out.2.2.cell (p := ⟨w1.heap.size, 0, none⟩) hga7).trans c7
      clear hb7 hb57 hbox7 hst7 hRR7 c7
      go_wp2_with fail
      refine (HE.out _ HE0.out).mono ?_
      rintro e w8 ⟨rfl, j, hj, hI8, ho, hg⟩
      obtain ⟨h81, h82, h83⟩ := hI8
      have k1 := cell_of_one h81
      have k2 := cell_of_one h82
      have k3 := cell_of_one ((h83.block _ (by omega)).trans HBox7.out)
      have k4 := cell_of_one ((h83.block _ (by omega)).trans HSt7.out)
      have HFin : Hid (Below w.heap.size w w8) := Lib.hid (HBW.out.trans ((HB57.out.trans (h83.mono hsz57)).mono hszo))
      have hcs := each_count hj ho hg
      clear ho hg h81 h82 h83 hj HE HE0
      rcases hcs with ⟨s1, s2, rfl⟩ | ⟨s1, s2, rfl⟩ | ⟨s1, s2, s3⟩ | ⟨s1, s2, rfl⟩
      · go_wp2_with fail
        go_ret
        exact ⟨rfl, HFin.out⟩
      · go_wp2_with fail
        go_ret
        exact ⟨rfl, HFin.out⟩
      · go_wp2_with fail
        go_ret
        exact ⟨rfl, HFin.out⟩
      · go_wp2_with fail
        go_ret
        exact ⟨rfl, HFin.out⟩

end Go.Proofs.Ytjadkfgkidejbaa
