/- nand: Program: what it does. -/
import Derived.Test.YtbbhniohliklhaaNandG
namespace Go.Proofs.Ytbbhniohliklhaa
open Go Go.RowKit
set_option linter.unusedVariables false

def NF.ticks : Nat → NF → NF
  | 0, F => F
  | k + 1, F => (NF.ticks k F).tick
def NB.prog (x : NB) (p : Nat) (l : List Nat) : NB := { x with pages := x.pages.set p l, next := (p : Int) + 1 }
/-- A page of which k chunks were written. -/
def chunkTo (raw old : List Nat) (k : Nat) : List Nat := raw.take (k * 73) ++ old.drop (k * 73)
/-- A flash of which k chunks of a page were programmed. -/
def NF.progK (F : NF) (n p : Nat) (x : NB) (raw old : List Nat) (k : Nat) : NF := if k = 0 then F else (F.ticks k).setB n (x.prog p (chunkTo raw old k))
def NB.progK (x : NB) (p : Nat) (raw old : List Nat) (k : Nat) : NB := if k = 0 then x else x.prog p (chunkTo raw old k)
def NF.done (F : NF) : NF := { F with pr := IntKind.i64.wrap (F.pr + 1) }
def NF.progGo (F : NF) (n p : Nat) (x : NB) (raw old : List Nat) : Nat → Nat → Int × NF
  | 0, k => (0, (F.progK n p x raw old k).done)
  | m + 1, k => if (F.ticks k).armed = 1 then (4, (F.progK n p x raw old k).cut) else F.progGo n p x raw old m (k + 1)

theorem NF.ticks_bl (F : NF) : ∀ k, (F.ticks k).bl = F.bl ∧ (F.ticks k).np = F.np ∧ (F.ticks k).ch = F.ch
  | 0 => ⟨rfl, rfl, rfl⟩
  | k + 1 => by
    obtain ⟨a, b, c⟩ := NF.ticks_bl F k
    exact ⟨a, b, c⟩
theorem NF.ticks_armed {F : NF} (h : 0 ≤ F.armed) (h1 : F.armed ≤ 9223372036854775807) : ∀ k, 0 ≤ (F.ticks k).armed ∧ (F.ticks k).armed ≤ 9223372036854775807
  | 0 => ⟨h, h1⟩
  | k + 1 => by
    have := NF.ticks_armed h h1 k
    simp only [NF.ticks, NF.tick]
    omega
theorem NF.progK_armed (F : NF) (n p : Nat) (x : NB) (raw old : List Nat) (k : Nat) : (F.progK n p x raw old k).armed = (F.ticks k).armed := by
  unfold NF.progK
  split
  · rename_i h; subst h; rfl
  · rfl
theorem NF.progK_ch (F : NF) (n p : Nat) (x : NB) (raw old : List Nat) (k : Nat) : (F.progK n p x raw old k).ch = F.ch ∧ (F.progK n p x raw old k).np = F.np ∧ (F.progK n p x raw old k).bl.length = F.bl.length := by
  obtain ⟨a, b, c⟩ := F.ticks_bl k
  unfold NF.progK
  split
  · exact ⟨rfl, rfl, rfl⟩
  · exact ⟨c, b, by simp [NF.setB, a]⟩
theorem NF.progK_at {F : NF} {n : Nat} {x : NB} (hx : F.bl[n]? = some x) (p : Nat) (raw old : List Nat) (k : Nat) : (F.progK n p x raw old k).bl[n]? = some (x.progK p raw old k) := by
  have hn := (List.getElem?_eq_some_iff.1 hx).1
  unfold NF.progK NB.progK
  split
  · exact hx
  · simp [NF.setB, (F.ticks_bl k).1, hn]
theorem NB.progK_pages (x : NB) (p : Nat) (raw old : List Nat) (k : Nat) (l : List Nat) : (x.progK p raw old k).pages.set p l = x.pages.set p l := by
  unfold NB.progK
  split
  · rfl
  · simp [NB.prog]
theorem NB.progK_len (x : NB) (p : Nat) (raw old : List Nat) (k : Nat) : (x.progK p raw old k).pages.length = x.pages.length := by
  unfold NB.progK
  split
  · rfl
  · simp [NB.prog]
theorem NB.progK_rest (x : NB) (p : Nat) (raw old : List Nat) (k : Nat) : (x.progK p raw old k).half = x.half ∧ (x.progK p raw old k).one = x.one ∧ (x.progK p raw old k).failed = x.failed := by
  unfold NB.progK
  split
  · exact ⟨rfl, rfl, rfl⟩
  · exact ⟨rfl, rfl, rfl⟩
/-- One more chunk. -/
theorem NF.progK_next (F : NF) (n p : Nat) (x : NB) (raw old : List Nat) (k : Nat) :
    ((F.progK n p x raw old k).tick).setB n ((x.progK p raw old k).prog p (chunkTo raw old (k + 1))) = F.progK n p x raw old (k + 1) := by
  have e : (x.progK p raw old k).prog p (chunkTo raw old (k + 1)) = x.prog p (chunkTo raw old (k + 1)) := by
    obtain ⟨a, b, c⟩ := x.progK_rest p raw old k
    unfold NB.prog
    rw [NB.progK_pages, a, b, c]
  rw [e]
  unfold NF.progK
  rw [if_neg (show ¬ k + 1 = 0 by omega)]
  split
  · rename_i h; subst h; rfl
  · simp [NF.ticks, NF.tick, NF.setB]
/-- A page's bytes behind a chunk. -/
theorem chunkTo_len {raw old : List Nat} {N k : Nat} (h1 : raw.length = N) (h2 : old.length = N) (hk : k * 73 ≤ N) : (chunkTo raw old k).length = N := by simp [chunkTo, h1, h2]; omega
theorem chunkTo_zero (raw old : List Nat) : chunkTo raw old 0 = old := by simp [chunkTo]
theorem chunkTo_all {raw old : List Nat} {N k : Nat} (h1 : raw.length = N) (h2 : old.length = N) (hk : N ≤ k * 73) : chunkTo raw old k = raw := by
  unfold chunkTo
  rw [List.take_of_length_le (by omega), List.drop_of_length_le (by omega), List.append_nil]
theorem chunkTo_lt {raw old : List Nat} (h1 : ∀ c ∈ raw, c < 256) (h2 : ∀ c ∈ old, c < 256) (k : Nat) : ∀ c ∈ chunkTo raw old k, c < 256 := by
  intro c hc
  rcases List.mem_append.1 hc with q | q
  · exact h1 c (List.mem_of_mem_take q)
  · exact h2 c (List.mem_of_mem_drop q)
theorem chunkTo_splice {raw old : List Nat} {N k : Nat} (tail : List Value) (h1 : raw.length = N) (h2 : old.length = N) (hk : (k + 1) * 73 ≤ N) :
    splice (u8s (chunkTo raw old k) ++ tail) (k * 73) (u8s ((raw.drop (k * 73)).take 73)) = u8s (chunkTo raw old (k + 1)) ++ tail := by
  unfold splice chunkTo
  have e1 : (u8s (List.take 73 (List.drop (k * 73) raw))).length = 73 := by rw [u8s_len]; simp; omega
  rw [e1, u8s_append, u8s_append]
  have l1 : (u8s (raw.take (k * 73))).length = k * 73 := by rw [u8s_len]; simp; omega
  have l2 : (u8s (old.drop (k * 73))).length = N - k * 73 := by rw [u8s_len]; simp; omega
  have e3 : List.drop (k * 73 + 73) (u8s (List.take (k * 73) raw) ++ (u8s (List.drop (k * 73) old) ++ tail)) = List.drop 73 (u8s (List.drop (k * 73) old)) ++ tail := by
    rw [List.drop_append (l₁ := u8s (List.take (k * 73) raw)), l1, List.drop_of_length_le (by omega), List.nil_append, show k * 73 + 73 - k * 73 = 73 by omega, List.drop_append_of_le_length (by omega)]
  rw [List.append_assoc, List.take_append_of_le_length (by omega), List.take_of_length_le (by omega), e3]
  rw [show (k + 1) * 73 = k * 73 + 73 by omega, List.take_add, u8s_append]
  have e2 : List.drop 73 (u8s (List.drop (k * 73) old)) = u8s (List.drop (k * 73 + 73) old) := by simp [u8s, List.map_drop]
  rw [e2]
  simp only [List.append_assoc]

/-- The mark of a page. -/
def exK (n p k : Nat) (i j : Nat) : Bool := decide (0 < k) && (i == n && j == p)
theorem exK_zero (n p : Nat) : exK n p 0 = noEx := by funext i j; simp [exK, noEx]
theorem exK_next (n p k : Nat) : (fun i j => exK n p k i j || (i == n && j == p)) = exK n p (k + 1) := by
  funext i j
  simp only [exK]
  cases (i == n && j == p) <;> simp

/-- A page's bytes are told again. -/
theorem FlashX.close {M : NMem} {S S' : Zone} {w : World} {g : Nat} {F : NF} {n p k : Nat} (h : FlashX M S w g F (exK n p k)) (hS : S.le S') (hv : 0 < k → ∀ x l, F.bl[n]? = some x → x.pages[p]? = some l → PgV S' w (M.vs n p) l) : FlashX M S' w g F noEx := by
  refine ⟨h.own, h.blk, fun i x hx => ?_, h.inj, ⟨hS _ h.zone.1, hS _ h.zone.2.1, fun i hi => hS _ (h.zone.2.2 i hi)⟩⟩
  obtain ⟨h1, D, h2, h3, h4⟩ := h.pgs i x hx
  refine ⟨h1, D, h2, h3, fun j l hl => ⟨(h4 j l hl).1, fun _ => ?_⟩⟩
  by_cases q : exK n p k i j = false
  · exact ((h4 j l hl).2 q).mono hS
  · simp [exK] at q
    obtain ⟨q1, rfl, rfl⟩ := q
    exact hv q1 x l hx hl

/-- Behind k chunks, in memory. -/
structure ProgI (S : Zone) (w : World) (g gl : Nat) (pg : Nat → Nat) (F : NF) (n p : Nat) (x : NB) (raw old : List Nat) (gb N cap : Nat) (tail : List Value) (k : Nat) (wr : World) : Prop where
  fl : ∃ vs, FlashX ⟨gl, pg, vs⟩ S wr g (F.progK n p x raw old k) (exK n p k) ∧ (0 < k → vs n p = .slice (some ⟨gb, 0, none⟩) N cap)
  row : HasB wr gb (u8s (chunkTo raw old k) ++ tail).toArray 5
  fr : Fr S w wr
/-- What a page's row is while it is programmed. -/
structure ProgG (S : Zone) (w : World) (x : NB) (p : Nat) (raw old : List Nat) (gb N cap : Nat) (tail : List Value) : Prop where
  lives : S.lives w
  gb : w.heap.size ≤ gb
  N1 : 1 ≤ N
  N2 : N ≤ 1000
  rl : raw.length = N
  ol : old.length = N
  rc : ∀ c ∈ raw, c < 256
  oc : ∀ c ∈ old, c < 256
  capN : N ≤ cap
  capm : cap ≤ maxLen
  tl : N + tail.length = cap
  pl : p < x.pages.length
theorem ProgG.pgv {S : Zone} {w : World} {x : NB} {p : Nat} {raw old : List Nat} {gb N cap : Nat} {tail : List Value} (G : ProgG S w x p raw old gb N cap tail) {k : Nat} (hk : k * 73 ≤ N) {wr : World} (h : HasB wr gb (u8s (chunkTo raw old k) ++ tail).toArray 5) (hs : w.heap.size ≤ wr.heap.size) : PgV (S.grow w wr) wr (.slice (some ⟨gb, 0, none⟩) N cap) (chunkTo raw old k) := by
  have hl := chunkTo_len (k := k) G.rl G.ol hk
  refine .inr ⟨by rw [hl]; exact G.N1, ?_, fun k hk => ?_⟩
  · rw [hl]
    refine ⟨by rw [u8s_len, hl, Nat.mul_one], .inr ⟨gb, cap, _, rfl, Nat.zero_le _, h, G.capN, G.capm, ?_, ?_⟩⟩
    · simp [u8s_len, hl, G.tl]
    · have : (u8s (chunkTo raw old k)).length = N * 1 := by rw [u8s_len, hl, Nat.mul_one]
      simp only [List.toList_toArray]
      rw [List.take_append_of_le_length (by omega), List.take_of_length_le (by omega)]
  · simp [Value.ownBlock] at hk
    subst hk
    exact .inr ⟨G.gb, h.lt⟩
/-- What the flash is at the end. -/
theorem ProgI.close {S : Zone} {w : World} {g gl : Nat} {pg : Nat → Nat} {F F' : NF} {n p : Nat} {x : NB} {raw old : List Nat} {gb N cap : Nat} {tail : List Value} {k : Nat} {wr : World} {vs : Nat → Nat → Value} (G : ProgG S w x p raw old gb N cap tail) (hk : k * 73 ≤ N) (hx : F.bl[n]? = some x)
    (hf : FlashX ⟨gl, pg, vs⟩ S wr g F' (exK n p k)) (hF : F'.bl = (F.progK n p x raw old k).bl) (hv : 0 < k → vs n p = .slice (some ⟨gb, 0, none⟩) N cap) (hrow : HasB wr gb (u8s (chunkTo raw old k) ++ tail).toArray 5) (hfr : Fr S w wr) :
    FlashAt (S.grow w wr) wr g F' := by
  refine ⟨⟨_, hf.close (Zone.le_grow _ _ _) fun h0 y l hy hl => ?_⟩, G.lives.grow hfr.size⟩
  rw [hF, NF.progK_at hx] at hy
  obtain rfl := Option.some.inj hy
  have : (x.progK p raw old k).pages[p]? = some (chunkTo raw old k) := by
    unfold NB.progK
    rw [if_neg (by omega)]
    simp only [NB.prog]
    rw [List.getElem?_set_self G.pl]
  rw [this] at hl
  obtain rfl := Option.some.inj hl
  rw [show (NMem.mk gl pg vs).vs n p = vs n p by rfl, hv h0]
  exact G.pgv hk hrow hfr.size
end Go.Proofs.Ytbbhniohliklhaa
