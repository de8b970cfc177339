/- The plain law of the choices: what is chosen is least. -/
import Derived.Test.YtjadkfgkidejbaaWearE
namespace Go.Proofs.Ytjadkfgkidejbaa
open Go.RowKit
set_option linter.unusedVariables false

def LeastOf (may : Blk → Bool) (le : Blk → Blk → Prop) (o : Option Blk) (l : List Blk) : Prop :=
  match o with
  | none => ∀ c ∈ l, rightB c = true → may c = true → False
  | some b => rightB b = true ∧ ∀ c ∈ l, rightB c = true → may c = true → le b c

theorem bestStep_least {may : Blk → Bool} {ahead : Blk → Blk → Bool} {le : Blk → Blk → Prop} (hf : ∀ c b, rightB c = true → rightB b = true → ahead c b = false → le b c) (ht : ∀ c b, rightB c = true → rightB b = true → ahead c b = true → le c b)
    (tr : ∀ a b c, rightB a = true → rightB b = true → rightB c = true → le a b → le b c → le a c) (rf : ∀ a, le a a) (o : Option Blk) (l : List Blk) (z : Blk) (h : LeastOf may le o l) : LeastOf may le (bestStep may ahead o z) (l ++ [z]) := by
  cases hr : rightB z
  · have e : bestStep may ahead o z = o := by simp [bestStep, hr]
    rw [e]
    cases o with
    | none => intro c hc h1 h2; rcases List.mem_append.1 hc with h3 | h3; exact h c h3 h1 h2; simp at h3; subst h3; simp [hr] at h1
    | some b => refine ⟨h.1, fun c hc h1 h2 => ?_⟩; rcases List.mem_append.1 hc with h3 | h3; exact h.2 c h3 h1 h2; simp at h3; subst h3; simp [hr] at h1
  · cases hm : may z
    · have e : bestStep may ahead o z = o := by simp [bestStep, hm]
      rw [e]
      cases o with
      | none => intro c hc h1 h2; rcases List.mem_append.1 hc with h3 | h3; exact h c h3 h1 h2; simp at h3; subst h3; simp [hm] at h2
      | some b => refine ⟨h.1, fun c hc h1 h2 => ?_⟩; rcases List.mem_append.1 hc with h3 | h3; exact h.2 c h3 h1 h2; simp at h3; subst h3; simp [hm] at h2
    · cases o with
      | none =>
        have e : bestStep may ahead none z = some z := by simp [bestStep, hr, hm]
        rw [e]
        refine ⟨hr, fun c hc h1 h2 => ?_⟩
        rcases List.mem_append.1 hc with h3 | h3
        · exact (h c h3 h1 h2).elim
        · simp at h3; subst h3; exact rf c
      | some b =>
        cases ha : ahead z b
        · have e : bestStep may ahead (some b) z = some b := by simp [bestStep, ha]
          rw [e]
          refine ⟨h.1, fun c hc h1 h2 => ?_⟩
          rcases List.mem_append.1 hc with h3 | h3
          · exact h.2 c h3 h1 h2
          · simp at h3; subst h3; exact hf _ _ hr h.1 ha
        · have e : bestStep may ahead (some b) z = some z := by simp [bestStep, hr, hm, ha]
          rw [e]
          refine ⟨hr, fun c hc h1 h2 => ?_⟩
          rcases List.mem_append.1 hc with h3 | h3
          · exact tr _ _ _ hr h.1 h1 (ht _ _ hr h.1 ha) (h.2 c h3 h1 h2)
          · simp at h3; subst h3; exact rf c

theorem bestOf_least {may : Blk → Bool} {ahead : Blk → Blk → Bool} {le : Blk → Blk → Prop} (hf : ∀ c b, rightB c = true → rightB b = true → ahead c b = false → le b c) (ht : ∀ c b, rightB c = true → rightB b = true → ahead c b = true → le c b)
    (tr : ∀ a b c, rightB a = true → rightB b = true → rightB c = true → le a b → le b c → le a c) (rf : ∀ a, le a a) (l : List Blk) : LeastOf may le (bestOf may ahead l) l := by
  have : ∀ (r p : List Blk) (o : Option Blk), LeastOf may le o p → LeastOf may le (r.foldl (bestStep may ahead) o) (p ++ r) := by
    intro r
    induction r with
    | nil => intro p o h; simpa using h
    | cons z r ih => intro p o h; have := ih (p ++ [z]) _ (bestStep_least hf ht tr rf o p z h); simpa using this
  have := this l [] none (by intro c hc; simp at hc)
  simpa [bestOf] using this

def leV (b c : Blk) : Prop := b.live * c.pages ≤ c.live * b.pages

theorem leV_trans (a b c : Blk) (ha : rightB a = true) (hb : rightB b = true) (hc : rightB c = true) (h1 : leV a b) (h2 : leV b c) : leV a c := by
  obtain ⟨_, a2, _, a4, _⟩ := rightB_bd ha
  obtain ⟨_, b2, _, b4, _⟩ := rightB_bd hb
  obtain ⟨_, c2, _, c4, _⟩ := rightB_bd hc
  unfold leV at *
  have e1 : a.live * b.pages * c.pages ≤ b.live * a.pages * c.pages := Int.mul_le_mul_of_nonneg_right h1 (by omega)
  have e2 : b.live * c.pages * a.pages ≤ c.live * b.pages * a.pages := Int.mul_le_mul_of_nonneg_right h2 (by omega)
  have e3 : b.live * a.pages * c.pages = b.live * c.pages * a.pages := by rw [Int.mul_right_comm]
  have e4 : a.live * c.pages * b.pages ≤ c.live * a.pages * b.pages := by
    rw [Int.mul_right_comm a.live, Int.mul_right_comm c.live]
    omega
  exact Int.le_of_mul_le_mul_right e4 (by omega)

theorem victim_least (l : List Blk) : LeastOf closedB leV (bestOf closedB aheadV l) l := by
  refine bestOf_least (fun c b hc hb h => ?_) (fun c b hc hb h => ?_) leV_trans (fun a => Int.le_refl _) l
  · unfold aheadV at h
    unfold leV
    split at h
    · omega
    · simp at h; omega
  · unfold aheadV at h
    unfold leV
    split at h
    · omega
    · simp at h; omega

theorem fresh_least (one : Bool) (l : List Blk) : LeastOf emptyB (fun b c => b.worn ≤ c.worn) (bestOf emptyB (aheadF one) l) l := by
  refine bestOf_least (le := fun b c => b.worn ≤ c.worn) (fun c b hc hb h => ?_) (fun c b hc hb h => ?_) (fun a b c _ _ _ h1 h2 => Int.le_trans h1 h2) (fun a => Int.le_refl _) l
  · unfold aheadF at h
    split at h
    · omega
    · simp at h; omega
  · unfold aheadF at h
    split at h
    · omega
    · simp at h; omega

/-- A block that may be collected. -/
def okB (b : Blk) : Bool := rightB b && closedB b
def cmpB (z o : Blk) : Bool := !okB o || decide (z.live * o.pages ≤ o.live * z.pages)
def fullOf (l : List Blk) : Bool := l.all fun b => !okB b || decide (b.live = b.pages)
def hitB (L : List Blk) (n : Int) (b : Blk) : Bool := okB b && decide (b.n = n) && (decide (b.live < b.pages) && L.all (cmpB b))
def foundOf (L : List Blk) (is : Bool) (n : Int) (l : List Blk) : Bool := !is || l.any (hitB L n)

theorem all_iff {α : Type} {p : α → Bool} {l : List α} : l.all p = true ↔ ∀ x ∈ l, p x = true := by simp

theorem victims_plain (l : List Blk) : foundOf l (victimOf l).isSome (numOf (victimOf l)) l = true ∧ ((victimOf l).isSome = !fullOf l) ∧ ((victimOf l).isSome = true ∨ numOf (victimOf l) = 0) := by
  have hl := victim_least l
  unfold victimOf
  rcases ho : bestOf closedB aheadV l with _ | b
  · rw [ho] at hl
    refine ⟨by simp [foundOf], ?_, .inr rfl⟩
    have : fullOf l = true := by
      unfold fullOf
      rw [all_iff]
      intro c hc
      cases hk : okB c
      · simp
      · simp [okB] at hk
        exact (hl c hc hk.1 hk.2).elim
    simp [this]
  · rw [ho] at hl
    obtain ⟨hr, hm, hin⟩ := bestOf_right ho
    obtain ⟨_, b2, _, b4, b5, _⟩ := rightB_bd hr
    by_cases he : b.live = b.pages
    · simp only [he, if_true]
      refine ⟨by simp [foundOf], ?_, .inr rfl⟩
      have : fullOf l = true := by
        unfold fullOf
        rw [all_iff]
        intro c hc
        cases hk : okB c
        · simp
        · simp [okB] at hk
          have h1 := hl.2 c hc hk.1 hk.2
          obtain ⟨_, c2, _, c4, c5, _⟩ := rightB_bd hk.1
          unfold leV at h1
          rw [he, Int.mul_comm] at h1
          have := Int.le_of_mul_le_mul_right h1 (by omega)
          simp
          omega
      simp [this]
    · simp only [he, if_false]
      have hok : okB b = true := by simp [okB, hr, hm]
      refine ⟨?_, ?_, .inl rfl⟩
      · simp only [foundOf, Option.isSome, Bool.not_true, Bool.false_or, List.any_eq_true]
        refine ⟨b, hin, ?_⟩
        unfold hitB
        simp only [hok, Bool.true_and, numOf, Option.getD, decide_true]
        rw [Bool.and_eq_true]
        refine ⟨by simp; omega, ?_⟩
        rw [all_iff]
        intro c hc
        unfold cmpB
        cases hk : okB c
        · simp
        · simp [okB] at hk
          have h1 := hl.2 c hc hk.1 hk.2
          simpa [leV] using h1
      · have : fullOf l = false := by
          rw [Bool.eq_false_iff]
          intro hf
          unfold fullOf at hf
          rw [all_iff] at hf
          have := hf b hin
          simp [hok, he] at this
        simp [this]

def emptyOk (b : Blk) : Bool := rightB b && emptyB b
def anyOf (l : List Blk) : Bool := l.any emptyOk
def cmpF (z o : Blk) : Bool := !emptyOk o || decide (z.worn ≤ o.worn)
def hitF (L : List Blk) (n : Int) (b : Blk) : Bool := emptyOk b && (decide (b.n = n) && L.all (cmpF b))
def foundF (L : List Blk) (n : Int) (l : List Blk) : Bool := l.any (hitF L n)

theorem frees_plain (one : Bool) (l : List Blk) : ((freshOf one l).isSome = anyOf l) ∧ (foundF l (numOf (freshOf one l)) l = true ∨ ((freshOf one l).isSome = false ∧ numOf (freshOf one l) = 0)) := by
  have hl := fresh_least one l
  unfold freshOf
  rcases ho : bestOf emptyB (aheadF one) l with _ | b
  · rw [ho] at hl
    refine ⟨?_, .inr ⟨rfl, rfl⟩⟩
    have : anyOf l = false := by
      rw [Bool.eq_false_iff]
      intro h
      simp only [anyOf, List.any_eq_true] at h
      obtain ⟨c, hc, hk⟩ := h
      simp [emptyOk] at hk
      exact hl c hc hk.1 hk.2
    rw [this]; rfl
  · rw [ho] at hl
    obtain ⟨hr, hm, hin⟩ := bestOf_right ho
    have hok : emptyOk b = true := by simp [emptyOk, hr, hm]
    refine ⟨?_, .inl ?_⟩
    · have : anyOf l = true := by simp only [anyOf, List.any_eq_true]; exact ⟨b, hin, hok⟩
      rw [this]; rfl
    · simp only [foundF, List.any_eq_true]
      refine ⟨b, hin, ?_⟩
      unfold hitF
      simp only [hok, Bool.true_and, numOf, Option.getD, decide_true]
      rw [all_iff]
      intro c hc
      unfold cmpF
      cases hk : emptyOk c
      · simp
      · simp [emptyOk] at hk
        have h1 := hl.2 c hc hk.1 hk.2
        simpa using h1

end Go.Proofs.Ytjadkfgkidejbaa
