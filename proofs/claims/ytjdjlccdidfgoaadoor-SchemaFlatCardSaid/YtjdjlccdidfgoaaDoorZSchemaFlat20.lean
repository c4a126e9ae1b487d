/- Texts of the claim, packed: SckAid, SckCpy. -/
import Derived.Lib.Strings
import Derived.Lib.ValidLaws
import Derived.Test.YtjdjlccdidfgoaaDoorZSchemaFlat6
import Derived.Test.YtjdjlccdidfgoaaDoorZSchemaFlat8
import Derived.Test.YtjdjlccdidfgoaaDoorZSchemaFlat9
import Derived.Test.YtjdjlccdidfgoaaDoorZSchemaFlat16
section
/- The document's answers about a schema, exactly: a text is UTF-8 as the decoder says; a schema may be just if the walk of the program says so. -/
namespace Go.Proofs.YtjdjlccdidfgoaaDoor.SckAid
open Go.RowKit Go.Proofs.YtjdjlccdidfgoaaDoorW.PrintWords Go.Proofs.YtjdjlccdidfgoaaDoorW.PrintLast Go.Proofs.YtjdjlccdidfgoaaDoorW.PrintMore Go.Proofs.YtjdjlccdidfgoaaDoor.H
set_option linter.unusedVariables false
set_option linter.unusedSimpArgs false
/-- From some round on the answer is r. -/
def Ans {α : Type} (f : Nat → Option α) (r : α) : Prop := ∃ K, ∀ k, K ≤ k → f k = some r
theorem Ans.const {α : Type} (r : α) : Ans (fun _ => some r) r := ⟨0, fun _ _ => rfl⟩
theorem Ans.bind {α β : Type} {f : Nat → Option α} {g : Nat → α → Option β} {a : α} {b : β} (hf : Ans f a) (hg : Ans (fun k => g k a) b) : Ans (fun k => (f k).bind (g k)) b := by
  obtain ⟨K, hK⟩ := hf
  obtain ⟨M, hM⟩ := hg
  refine ⟨max K M, fun k hk => ?_⟩
  show (f k).bind (g k) = some b
  rw [hK k (by omega)]
  exact hM k (by omega)
theorem Ans.succ {α : Type} {f g : Nat → Option α} {r : α} (h : ∀ k, f (k + 1) = g k) (hg : Ans g r) : Ans f r := by
  obtain ⟨K, hK⟩ := hg
  refine ⟨K + 1, fun k hk => ?_⟩
  obtain ⟨m, rfl⟩ : ∃ m, k = m + 1 := ⟨k - 1, by omega⟩
  rw [h]
  exact hK m (by omega)
theorem Ans.congr {α : Type} {f g : Nat → Option α} {r : α} (h : ∀ k, f k = g k) (hg : Ans g r) : Ans f r := by
  obtain ⟨K, hK⟩ := hg
  exact ⟨K, fun k hk => (h k).trans (hK k hk)⟩
theorem Ans.pos {α : Type} {p : Prop} [Decidable p] {f g : Nat → Option α} {r : α} (hp : p) (h : Ans f r) : Ans (fun k => if p then f k else g k) r := Ans.congr (fun k => if_pos hp) h
theorem Ans.neg {α : Type} {p : Prop} [Decidable p] {f g : Nat → Option α} {r : α} (hp : ¬ p) (h : Ans g r) : Ans (fun k => if p then f k else g k) r := Ans.congr (fun k => if_neg hp) h
theorem Ans.up {α : Type} {f : Nat → Option α} {r : α} (hm : ∀ k, LeO (f k) (f (k + 1))) {K : Nat} (h : f K = some r) : Ans f r := by
  refine ⟨K, fun k hk => ?_⟩
  obtain ⟨d, rfl⟩ : ∃ d, k = K + d := ⟨k - K, by omega⟩
  clear hk
  induction d with
  | zero => exact h
  | succ d ih => exact hm _ r ih
theorem Ans.get {α : Type} {f : Nat → Option α} {r : α} (h : Ans f r) : ∃ k, f k = some r := by
  obtain ⟨K, hK⟩ := h
  exact ⟨K, hK K (Nat.le_refl _)⟩
theorem wrap_on {i : Int} (h0 : -1000000000000000 ≤ i) (h1 : i ≤ 1000000000000000) : wrap64 i = i := by
  unfold wrap64
  omega
def moreB (s : ByteArray) (j : Int) : Bool := decide (j < (s.size : Int)) && (decide (128 ≤ bt s j) && decide (bt s j < 192))
theorem more_f (s : ByteArray) (j : Int) (h : 0 ≤ j) : marquetryref16_more.f s j = some (moreB s j) := by
  unfold marquetryref16_more.f moreB
  by_cases h1 : j < (s.size : Int)
  · rw [if_pos h1, if_pos h, decide_eq_true h1]
    by_cases h2 : bt s j ≥ 128
    · rw [if_pos h2, decide_eq_true (show 128 ≤ bt s j from h2)]
      simp
    · rw [if_neg h2, decide_eq_false (show ¬ 128 ≤ bt s j from h2)]
      simp
  · rw [if_neg h1, decide_eq_false h1]
    simp
theorem more_in {s : ByteArray} {j : Int} (h : moreB s j = true) : j < (s.size : Int) := by
  unfold moreB at h
  simp only [Bool.and_eq_true, decide_eq_true_eq] at h
  exact h.1
/-- The byte at a place, 0 behind the end. -/
def bN (s : ByteArray) (i : Nat) : Nat := (s.data.toList.getD i 0).toNat
theorem bt_N (s : ByteArray) (i : Nat) : bt s (i : Int) = (bN s i : Int) := by
  unfold bt bN
  by_cases h : i < s.size
  · rw [dif_pos (by simpa using h)]
    have h2 : i < s.data.toList.length := by simpa using h
    rw [List.getD_eq_getElem?_getD, List.getElem?_eq_getElem h2]
    simp
    rfl
  · rw [dif_neg (by simpa using h)]
    have h2 : s.data.toList.length ≤ i := by simpa using h
    rw [List.getD_eq_getElem?_getD, List.getElem?_eq_none h2]
    rfl
theorem bN_lt (s : ByteArray) (i : Nat) : bN s i < 256 := by
  unfold bN
  exact UInt8.toNat_lt _
/-- How many bytes the sign has that begins with these. -/
def r2 (c b1 : Nat) (b : Bool) : Nat := if b = true then (if (c = 240 ∧ b1 < 144) ∨ (c = 244 ∧ 143 < b1) then 0 else 4) else 0
def r1 (c b1 : Nat) (m1 m2 m3 b : Bool) : Nat := if b = true then (if (c = 224 ∧ b1 < 160) ∨ (c = 237 ∧ 159 < b1) then 0 else 3) else r2 c b1 (decide (240 ≤ c) && (decide (c ≤ 244) && (m1 && (m2 && m3))))
def r0 (c b1 : Nat) (m1 m2 m3 b : Bool) : Nat := if b = true then 2 else r1 c b1 m1 m2 m3 (decide (224 ≤ c) && (decide (c ≤ 239) && (m1 && m2)))
def rN (c b1 : Nat) (m1 m2 m3 : Bool) : Nat := if c < 128 then 1 else r0 c b1 m1 m2 m3 (decide (194 ≤ c) && (decide (c ≤ 223) && m1))
theorem wrap_n (i d : Nat) (hi : i ≤ 1000000) (hd : d ≤ 10) : wrap64 ((i : Int) + (d : Int)) = ((i + d : Nat) : Int) := by
  rw [wrap_on (by omega) (by omega)]
  omega
theorem rune_j2 (k : Nat) (s : ByteArray) (i c : Nat) (hb : i ≤ 1000000) (b : Bool) (h : b = true → i + 1 < s.size) : marquetryref16_runeAt.j2 (k + 1) s (i : Int) (c : Int) b = some (r2 c (bN s (i + 1)) b : Int) := by
  have w1 : wrap64 ((i : Int) + 1) = ((i + 1 : Nat) : Int) := wrap_n i 1 hb (by omega)
  simp only [marquetryref16_runeAt.j2]
  rw [w1, bt_N]
  unfold r2
  cases b with
  | false => simp
  | true =>
    have hl := h rfl
    rw [if_pos rfl, if_pos rfl]
    repeat' split
    all_goals first
      | rfl
      | (exfalso; omega)
theorem rune_j1 (k : Nat) (s : ByteArray) (i c : Nat) (hb : i ≤ 1000000) (b : Bool) (h : b = true → i + 1 < s.size) : marquetryref16_runeAt.j1 (k + 2) s (i : Int) (c : Int) b = some (r1 c (bN s (i + 1)) (moreB s ((i + 1 : Nat) : Int)) (moreB s ((i + 2 : Nat) : Int)) (moreB s ((i + 3 : Nat) : Int)) b : Int) := by
  have w1 : wrap64 ((i : Int) + 1) = ((i + 1 : Nat) : Int) := wrap_n i 1 hb (by omega)
  have w2 : wrap64 ((i : Int) + 2) = ((i + 2 : Nat) : Int) := wrap_n i 2 hb (by omega)
  have w3 : wrap64 ((i : Int) + 3) = ((i + 3 : Nat) : Int) := wrap_n i 3 hb (by omega)
  simp only [marquetryref16_runeAt.j1]
  rw [w1, w2, w3, more_f s ((i + 1 : Nat) : Int) (by omega), more_f s ((i + 2 : Nat) : Int) (by omega), more_f s ((i + 3 : Nat) : Int) (by omega)]
  simp only [Option.bind_some]
  unfold r1
  cases b with
  | true =>
    have hl := h rfl
    rw [if_pos rfl, if_pos rfl, bt_N]
    repeat' split
    all_goals first
      | rfl
      | (exfalso; omega)
  | false =>
    rw [if_neg (show ¬ (false = true) by decide), if_neg (show ¬ (false = true) by decide)]
    have h2 : ∀ m : Bool, (m = true → i + 1 < s.size) → marquetryref16_runeAt.j2 (k + 1) s (i : Int) (c : Int) m = some (r2 c (bN s (i + 1)) m : Int) := fun m hm => rune_j2 k s i c hb m hm
    have hm1 : moreB s ((i + 1 : Nat) : Int) = true → i + 1 < s.size := fun h => by have := more_in h; omega
    by_cases a : c ≥ 240
    · rw [if_pos (by omega), decide_eq_true (show 240 ≤ c from a)]
      by_cases a2 : c ≤ 244
      · rw [if_pos (by omega), decide_eq_true a2]
        cases e1 : moreB s ((i + 1 : Nat) : Int) with
        | false =>
          rw [if_neg (show ¬ (false = true) by decide), h2 _ (fun h => by cases h)]
          rfl
        | true =>
          rw [if_pos rfl]
          cases e2 : moreB s ((i + 2 : Nat) : Int) with
          | false =>
            rw [if_neg (show ¬ (false = true) by decide), h2 _ (fun h => by cases h)]
            rfl
          | true =>
            rw [if_pos rfl, h2 _ (fun _ => hm1 e1)]
            rfl
      · rw [if_neg (by omega), decide_eq_false a2, h2 _ (fun h => by cases h)]
        rfl
    · rw [if_neg (by omega), decide_eq_false (show ¬ 240 ≤ c from a), h2 _ (fun h => by cases h)]
      rfl
theorem rune_j0 (k : Nat) (s : ByteArray) (i c : Nat) (hb : i ≤ 1000000) (b : Bool) : marquetryref16_runeAt.j0 (k + 3) s (i : Int) (c : Int) b = some (r0 c (bN s (i + 1)) (moreB s ((i + 1 : Nat) : Int)) (moreB s ((i + 2 : Nat) : Int)) (moreB s ((i + 3 : Nat) : Int)) b : Int) := by
  have w1 : wrap64 ((i : Int) + 1) = ((i + 1 : Nat) : Int) := wrap_n i 1 hb (by omega)
  have w2 : wrap64 ((i : Int) + 2) = ((i + 2 : Nat) : Int) := wrap_n i 2 hb (by omega)
  simp only [marquetryref16_runeAt.j0]
  rw [w1, w2, more_f s ((i + 1 : Nat) : Int) (by omega), more_f s ((i + 2 : Nat) : Int) (by omega)]
  simp only [Option.bind_some]
  unfold r0
  cases b with
  | true => rfl
  | false =>
    rw [if_neg (show ¬ (false = true) by decide), if_neg (show ¬ (false = true) by decide)]
    have h2 : ∀ m : Bool, (m = true → i + 1 < s.size) → marquetryref16_runeAt.j1 (k + 2) s (i : Int) (c : Int) m = some (r1 c (bN s (i + 1)) (moreB s ((i + 1 : Nat) : Int)) (moreB s ((i + 2 : Nat) : Int)) (moreB s ((i + 3 : Nat) : Int)) m : Int) := fun m hm => rune_j1 k s i c hb m hm
    have hm1 : moreB s ((i + 1 : Nat) : Int) = true → i + 1 < s.size := fun h => by have := more_in h; omega
    by_cases a : c ≥ 224
    · rw [if_pos (by omega), decide_eq_true (show 224 ≤ c from a)]
      by_cases a2 : c ≤ 239
      · rw [if_pos (by omega), decide_eq_true a2]
        cases e1 : moreB s ((i + 1 : Nat) : Int) with
        | false =>
          rw [e1] at h2
          rw [if_neg (show ¬ (false = true) by decide), h2 _ (fun h => by cases h)]
          rfl
        | true =>
          rw [e1] at h2
          rw [if_pos rfl, h2 _ (fun _ => hm1 e1)]
          rfl
      · rw [if_neg (by omega), decide_eq_false a2, h2 _ (fun h => by cases h)]
        rfl
    · rw [if_neg (by omega), decide_eq_false (show ¬ 224 ≤ c from a), h2 _ (fun h => by cases h)]
      rfl
theorem rune_ans (s : ByteArray) (i : Nat) (h1 : i < s.size) (hb : i ≤ 1000000) : Ans (fun k => marquetryref16_runeAt.f k s (i : Int)) (rN (bN s i) (bN s (i + 1)) (moreB s ((i + 1 : Nat) : Int)) (moreB s ((i + 2 : Nat) : Int)) (moreB s ((i + 3 : Nat) : Int)) : Int) := by
  have h : marquetryref16_runeAt.f 3 s (i : Int) = some (rN (bN s i) (bN s (i + 1)) (moreB s ((i + 1 : Nat) : Int)) (moreB s ((i + 2 : Nat) : Int)) (moreB s ((i + 3 : Nat) : Int)) : Int) := by
    have w1 : wrap64 ((i : Int) + 1) = ((i + 1 : Nat) : Int) := wrap_n i 1 hb (by omega)
    unfold marquetryref16_runeAt.f
    rw [if_pos (by omega), if_pos (by omega), w1, more_f s ((i + 1 : Nat) : Int) (by omega), bt_N]
    simp only [Option.bind_some]
    unfold rN
    by_cases a0 : bN s i < 128
    · rw [if_pos (by omega), if_pos a0]
      rfl
    · rw [if_neg (by omega), if_neg a0, rune_j0 0 s i _ hb, rune_j0 0 s i _ hb]
      by_cases a : bN s i ≥ 194
      · rw [if_pos (by omega), decide_eq_true (show 194 ≤ bN s i from a)]
        by_cases a2 : bN s i ≤ 223
        · rw [if_pos (by omega), decide_eq_true a2]
          rfl
        · rw [if_neg (by omega), decide_eq_false a2]
          rfl
      · rw [if_neg (by omega), decide_eq_false (show ¬ 194 ≤ bN s i from a)]
        rfl
  exact Ans.up (fun k => marquetryref16_runeAt.mono s i k) h
theorem rN_decode (n b0 b1 b2 b3 : Nat) (m1 m2 m3 : Bool) (h0 : b0 < 256) (e1 : m1 = decide (1 < n ∧ 128 ≤ b1 ∧ b1 < 192)) (e2 : m2 = decide (2 < n ∧ 128 ≤ b2 ∧ b2 < 192)) (e3 : m3 = decide (3 < n ∧ 128 ≤ b3 ∧ b3 < 192)) :
    (rN b0 b1 m1 m2 m3 = 0 ∧ Lib.decodeN n b0 b1 b2 b3 = (65533, 1)) ∨ (rN b0 b1 m1 m2 m3 ≠ 0 ∧ ¬ ((Lib.decodeN n b0 b1 b2 b3).1 = 65533 ∧ (Lib.decodeN n b0 b1 b2 b3).2 = 1) ∧ (Lib.decodeN n b0 b1 b2 b3).2 = rN b0 b1 m1 m2 m3) := by
  subst e1 e2 e3
  unfold rN r0 r1 r2 Lib.decodeN
  simp only [Bool.and_eq_true, decide_eq_true_eq]
  repeat' split
  all_goals first
    | (exfalso; omega)
    | (left; exact ⟨rfl, rfl⟩)
    | (right; refine ⟨by decide, ?_, rfl⟩; intro h; have h1 := h.1; have h2 := h.2; simp only at h1 h2; omega)
theorem more_N (s : ByteArray) (i d : Nat) (hi : i < s.size) : moreB s ((i + d : Nat) : Int) = decide (d < s.size - i ∧ 128 ≤ bN s (i + d) ∧ bN s (i + d) < 192) := by
  unfold moreB
  rw [bt_N]
  by_cases h : d < s.size - i ∧ 128 ≤ bN s (i + d) ∧ bN s (i + d) < 192
  · rw [decide_eq_true h, decide_eq_true (by omega), decide_eq_true (by omega), decide_eq_true (by omega)]
    rfl
  · rw [decide_eq_false h]
    by_cases h1 : ((i + d : Nat) : Int) < (s.size : Int)
    · by_cases h2 : (128 : Int) ≤ (bN s (i + d) : Int)
      · rw [decide_eq_false (show ¬ ((bN s (i + d) : Nat) : Int) < 192 by omega)]
        simp
      · rw [decide_eq_false h2]
        simp
    · rw [decide_eq_false h1]
      rfl
theorem utf8_loop (s : ByteArray) (hs : s.size ≤ 1000) : ∀ n i : Nat, s.size - i ≤ n → i ≤ 2000 → Ans (fun k => marquetryref16_UTF8.l0 k s (i : Int)) (Lib.validD (s.data.toList.drop i)) := by
  intro n
  induction n with
  | zero =>
    intro i hi h2
    have e : s.data.toList.drop i = [] := List.drop_eq_nil_of_le (by simp; omega)
    rw [e, Lib.validD_nil]
    exact Ans.succ (g := fun _ => some true) (fun k => by simp only [marquetryref16_UTF8.l0]; rw [if_neg (by omega)]) (Ans.const _)
  | succ n ih =>
    intro i hi h2
    by_cases hlt : i < s.size
    · have hlen : s.data.toList.length = s.size := by simp
      have hne : s.data.toList.drop i ≠ [] := by
        intro h
        have := congrArg List.length h
        rw [List.length_drop, hlen] at this
        simp at this
        omega
      have hd : Lib.decodeL (s.data.toList.drop i) = Lib.decodeN (s.size - i) (bN s i) (bN s (i + 1)) (bN s (i + 2)) (bN s (i + 3)) := by
        rw [Lib.decodeL_N, List.length_drop, hlen, Lib.getD_dropU, Lib.getD_dropU, Lib.getD_dropU, Lib.getD_dropU]
        rfl
      have hr := rune_ans s i hlt (by omega)
      have hc := rN_decode (s.size - i) (bN s i) (bN s (i + 1)) (bN s (i + 2)) (bN s (i + 3)) _ _ _ (bN_lt s i) (more_N s i 1 hlt) (more_N s i 2 hlt) (more_N s i 3 hlt)
      have hw := Lib.decodeL_le _ hne
      rw [List.length_drop, hlen, hd] at hw
      rw [Lib.validD_step _ hne, hd]
      generalize rN (bN s i) (bN s (i + 1)) (moreB s ((i + 1 : Nat) : Int)) (moreB s ((i + 2 : Nat) : Int)) (moreB s ((i + 3 : Nat) : Int)) = r at hr hc
      rcases hc with ⟨hr0, hd0⟩ | ⟨hr0, hd0, hd1⟩
      · rw [hd0, if_pos ⟨rfl, rfl⟩]
        exact Ans.succ (g := fun k => (marquetryref16_runeAt.f k s (i : Int)).bind fun t109 => (if t109 = 0 then (some false) else (marquetryref16_UTF8.l0 k s (wrap64 ((i : Int) + t109))))) (fun k => by simp only [marquetryref16_UTF8.l0]; rw [if_pos (by omega)]) (Ans.bind hr (Ans.pos (by omega) (Ans.const _)))
      · rw [if_neg hd0, hd1, List.drop_drop]
        refine Ans.succ (g := fun k => (marquetryref16_runeAt.f k s (i : Int)).bind fun t109 => (if t109 = 0 then (some false) else (marquetryref16_UTF8.l0 k s (wrap64 ((i : Int) + t109))))) (fun k => by simp only [marquetryref16_UTF8.l0]; rw [if_pos (by omega)]) (Ans.bind hr (Ans.neg (by omega) (Ans.congr (fun k => ?_) (ih (i + r) (by omega) (by omega)))))
        rw [wrap_on (by omega) (by omega), Int.natCast_add]
    · have e : s.data.toList.drop i = [] := List.drop_eq_nil_of_le (by simp; omega)
      rw [e, Lib.validD_nil]
      exact Ans.succ (g := fun _ => some true) (fun k => by simp only [marquetryref16_UTF8.l0]; rw [if_neg (by omega)]) (Ans.const _)
theorem named_ans (s : ByteArray) : Ans (fun k => marquetryref16_named.f k s) (nameB s) := by
  unfold marquetryref16_named.f nameB
  by_cases h1 : 1 ≤ s.size
  · rw [decide_eq_true h1]
    by_cases h2 : s.size ≤ 64
    · rw [decide_eq_true h2]
      have h := utf8_loop s (by omega) s.size 0 (by omega) (by omega)
      rw [List.drop_zero] at h
      exact Ans.pos (by omega) (Ans.pos (by omega) (Ans.bind (g := fun _ t => some t) h (Ans.const _)))
    · rw [decide_eq_false h2]
      exact Ans.pos (by omega) (Ans.neg (by omega) (Ans.const _))
  · rw [decide_eq_false h1]
    exact Ans.neg (by omega) (Ans.const _)
theorem check_v (t s : Int) : datum_Check.v t s = if t = 0 ∨ t = 1 ∨ t = 2 ∨ t = 4 ∨ t = 5 ∨ t = 6 then (if s = 0 then 0 else 2) else if t = 7 then (if 1 ≤ s ∧ s ≤ 1048576 then 0 else 2) else 2 := by
  unfold datum_Check.v kOf
  by_cases h0 : t = 0
  · subst h0; simp
  by_cases h1 : t = 1
  · subst h1; simp
  by_cases h2 : t = 2
  · subst h2; simp
  by_cases h4 : t = 4
  · subst h4; simp
  by_cases h5 : t = 5
  · subst h5; simp
  by_cases h6 : t = 6
  · subst h6; simp
  by_cases h7 : t = 7
  · subst h7; simp
  simp [h0, h1, h2, h4, h5, h6, h7]
theorem ref_check (t s : Int) : marquetryref09_Check.f 1 t s = some (decide (datum_Check.v t s = 0)) := by
  rw [check_v]
  unfold marquetryref09_Check.f
  simp only [marquetryref09_Check.j0]
  by_cases h0 : t = 0
  · subst h0; by_cases hs : s = 0 <;> simp [hs]
  by_cases h1 : t = 1
  · subst h1; by_cases hs : s = 0 <;> simp [hs]
  by_cases h2 : t = 2
  · subst h2; by_cases hs : s = 0 <;> simp [hs]
  by_cases h4 : t = 4
  · subst h4; by_cases hs : s = 0 <;> simp [hs]
  by_cases h5 : t = 5
  · subst h5; by_cases hs : s = 0 <;> simp [hs]
  by_cases h6 : t = 6
  · subst h6; by_cases hs : s = 0 <;> simp [hs]
  by_cases h7 : t = 7
  · subst h7
    by_cases ha : 1 ≤ s <;> by_cases hb : s ≤ 1048576 <;> simp [ha, hb]
  simp [h0, h1, h2, h4, h5, h6, h7]
theorem check09_ans (a b : Int) : Ans (fun k => marquetryref09_Check.f k a b) (decide (datum_Check.v a b = 0)) := Ans.up (fun k => marquetryref09_Check.mono a b k) (ref_check a b)
/-- Lists of nodes of which none is too long. -/
inductive Sm : List S62 → Prop
  | mk (l : List S62) (hl : l.length ≤ 100000000000000) (hk : ∀ x, x ∈ l → Sm x.f5) : Sm l
/-- How many nodes there are, in one another. -/
def tot : List S62 → Nat
  | [] => 0
  | x :: xs => 1 + tot x.f5 + tot xs
termination_by l => SizeOf.sizeOf l
decreasing_by
  all_goals
    cases x
    simp_wf
    omega
/-- How deep they are nested. -/
def dep : List S62 → Nat
  | [] => 0
  | x :: xs => max (1 + dep x.f5) (dep xs)
termination_by l => SizeOf.sizeOf l
decreasing_by
  all_goals
    cases x
    simp_wf
    omega
theorem tot_nil : tot [] = 0 := by rw [tot]
theorem tot_cons (x : S62) (xs : List S62) : tot (x :: xs) = 1 + tot x.f5 + tot xs := by rw [tot]
theorem dep_nil : dep [] = 0 := by rw [dep]
theorem dep_cons (x : S62) (xs : List S62) : dep (x :: xs) = max (1 + dep x.f5) (dep xs) := by rw [dep]
theorem tot_app (a b : List S62) : tot (a ++ b) = tot a + tot b := by
  induction a with
  | nil => rw [List.nil_append, tot_nil]; omega
  | cons x a ih => rw [List.cons_append, tot_cons, tot_cons, ih]; omega
theorem dep_mem {x : S62} {l : List S62} (h : x ∈ l) : 1 + dep x.f5 ≤ dep l := by
  induction l with
  | nil => cases h
  | cons y l ih =>
    rw [dep_cons]
    rcases List.mem_cons.mp h with rfl | h
    · omega
    · have := ih h; omega
theorem tot_len (l : List S62) : l.length ≤ tot l := by
  induction l with
  | nil => simp
  | cons x l ih => rw [tot_cons, List.length_cons]; omega
theorem rd_mid (pre : List S62) (x : S62) (rest : List S62) : rd_T62 (pre ++ x :: rest) (pre.length : Int) = x := by
  unfold rd_T62
  rw [Int.toNat_natCast, List.getD_eq_getElem?_getD, List.getElem?_append_right (Nat.le_refl _), Nat.sub_self]
  rfl
theorem count_all {l : List S62} (h : Sm l) : ∃ r, Ans (fun k => marquetryref16_Count.f k l) r ∧ (dep l ≤ 100 → 0 ≤ r ∧ r ≤ 257 * (dep l : Int) ∧ (tot l ≤ 256 → r = tot l) ∧ (256 < tot l → 256 < r)) := by
  induction h with
  | mk l hl hk ih =>
    have loop : ∀ (rest pre : List S62) (acc : Int), l = pre ++ rest → ∃ r, Ans (fun k => marquetryref16_Count.l0 k l acc (pre.length : Int)) r ∧
        (dep l ≤ 100 → 0 ≤ acc → acc ≤ 257 * (dep l : Int) → 0 ≤ r ∧ r ≤ 257 * (dep l : Int) ∧ (256 < acc → r = acc) ∧ (acc ≤ 256 → (acc + (tot rest : Int) ≤ 256 → r = acc + (tot rest : Int)) ∧ (256 < acc + (tot rest : Int) → 256 < r))) := by
      intro rest
      induction rest with
      | nil =>
        intro pre acc e
        refine ⟨acc, Ans.succ (g := fun _ => some acc) (fun k => ?_) (Ans.const _), fun _ h0 h1 => ⟨h0, h1, fun _ => rfl, fun h2 => ⟨fun _ => by rw [tot_nil]; simp, fun h3 => by rw [tot_nil] at h3; simp at h3; omega⟩⟩⟩
        have e2 : l.length = pre.length := by rw [e]; simp
        simp only [marquetryref16_Count.l0]
        rw [if_neg (by omega)]
      | cons x rest ihr =>
        intro pre acc e
        have hx : x ∈ l := by rw [e]; simp
        have hlen : l.length = pre.length + (rest.length + 1) := by rw [e]; simp
        have hrd : rd_T62 l (pre.length : Int) = x := by rw [e]; exact rd_mid _ _ _
        by_cases hb : acc ≤ 256
        · obtain ⟨c, hc, hc2⟩ := ih x hx
          obtain ⟨r, hr, hr2⟩ := ihr (pre ++ [x]) (wrap64 (wrap64 (acc + 1) + c)) (by rw [e]; simp)
          refine ⟨r, Ans.succ (g := fun k => (marquetryref16_Count.f k x.f5).bind fun t102 => (marquetryref16_Count.l0 k l (wrap64 ((wrap64 (acc + 1)) + t102)) ((pre ++ [x]).length : Int))) (fun k => ?_) (Ans.bind hc hr), fun hd h0 h1 => ?_⟩
          · simp only [marquetryref16_Count.l0]
            rw [if_pos (by omega), if_pos hb, if_pos (by omega), hrd, wrap_on (i := (pre.length : Int) + 1) (by omega) (by omega)]
            simp
          · have hdx := dep_mem hx
            obtain ⟨c0, c1, c2, c3⟩ := hc2 (by omega)
            have e1 : wrap64 (wrap64 (acc + 1) + c) = acc + 1 + c := by rw [wrap_on (i := acc + 1) (by omega) (by omega), wrap_on (by omega) (by omega)]
            rw [e1] at hr2
            obtain ⟨q0, q1, q2, q3⟩ := hr2 hd (by omega) (by omega)
            refine ⟨q0, q1, fun h2 => absurd h2 (by omega), fun _ => ?_⟩
            rw [tot_cons]
            by_cases ht : tot x.f5 ≤ 256
            · have hce := c2 ht
              by_cases ha : acc + 1 + c ≤ 256
              · obtain ⟨u1, u2⟩ := q3 ha
                exact ⟨fun h => by rw [u1 (by omega)]; omega, fun h => u2 (by omega)⟩
              · have := q2 (by omega)
                exact ⟨fun h => by omega, fun h => by omega⟩
            · have hcg := c3 (by omega)
              have := q2 (by omega)
              exact ⟨fun h => by omega, fun h => by omega⟩
        · refine ⟨acc, Ans.succ (g := fun _ => some acc) (fun k => ?_) (Ans.const _), fun _ h0 h1 => ⟨h0, h1, fun _ => rfl, fun h2 => absurd h2 hb⟩⟩
          simp only [marquetryref16_Count.l0]
          rw [if_pos (by omega), if_neg hb]
    obtain ⟨r, hr, hr2⟩ := loop l [] 0 rfl
    refine ⟨r, Ans.succ (g := fun k => marquetryref16_Count.l0 k l 0 0) (fun k => by simp only [marquetryref16_Count.f]) hr, fun hd => ?_⟩
    obtain ⟨q0, q1, q2, q3⟩ := hr2 hd (by omega) (by omega)
    obtain ⟨u1, u2⟩ := q3 (by omega)
    exact ⟨q0, q1, fun h => by rw [u1 (by omega)]; omega, fun h => u2 (by omega)⟩
/-- The greatest depth of the nodes' kids, cut. -/
def md (left : Nat) : List S62 → Nat
  | [] => 0
  | x :: xs => max (min (dep x.f5) left) (md left xs)
theorem md_min (left : Nat) : ∀ l : List S62, l ≠ [] → 1 + md left l = min (dep l) (left + 1)
  | [], h => absurd rfl h
  | [x], _ => by rw [dep_cons, dep_nil, md, md]; omega
  | x :: y :: l, _ => by
    have ih := md_min left (y :: l) (by simp)
    rw [dep_cons, md]
    omega
theorem deep_all {l : List S62} (h : Sm l) : ∀ left : Nat, left ≤ 1000 → Ans (fun k => marquetryref16_deep.f k l (left : Int)) ((min (dep l) left : Nat) : Int) := by
  induction h with
  | mk l hl hk ih =>
    intro left hb
    by_cases h0 : l = []
    · subst h0
      rw [dep_nil, Nat.zero_min]
      exact Ans.succ (g := fun k => marquetryref16_deep.j0 k [] (left : Int) true) (fun k => by simp only [marquetryref16_deep.f]; rw [if_pos (by simp)]) (Ans.succ (g := fun _ => some 0) (fun k => by simp only [marquetryref16_deep.j0]; rw [if_pos trivial]) (Ans.const _))
    have hln : 0 < l.length := List.length_pos_iff.mpr h0
    cases left with
    | zero =>
      rw [Nat.min_zero]
      exact Ans.succ (g := fun k => marquetryref16_deep.j0 k l 0 true) (fun k => by simp only [marquetryref16_deep.f]; rw [if_neg (by omega)]; rfl) (Ans.succ (g := fun _ => some 0) (fun k => by simp only [marquetryref16_deep.j0]; rw [if_pos trivial]) (Ans.const _))
    | succ left =>
      have loop : ∀ (rest pre : List S62) (acc : Nat), l = pre ++ rest → acc ≤ 1000 → Ans (fun k => marquetryref16_deep.l0 k l ((left + 1 : Nat) : Int) (acc : Int) (pre.length : Int)) ((1 + max acc (md left rest) : Nat) : Int) := by
        intro rest
        induction rest with
        | nil =>
          intro pre acc e ha
          have e2 : l.length = pre.length := by rw [e]; simp
          refine Ans.succ (g := fun _ => some ((1 + max acc (md left []) : Nat) : Int)) (fun k => ?_) (Ans.const _)
          simp only [marquetryref16_deep.l0]
          rw [if_neg (by omega), wrap_on (by omega) (by omega), md]
          congr 1
          omega
        | cons x rest ihr =>
          intro pre acc e ha
          have hx : x ∈ l := by rw [e]; simp
          have hlen : l.length = pre.length + (rest.length + 1) := by rw [e]; simp
          have hrd : rd_T62 l (pre.length : Int) = x := by rw [e]; exact rd_mid _ _ _
          have hd := ih x hx left (by omega)
          have hm : max acc (md left (x :: rest)) = max (max acc (min (dep x.f5) left)) (md left rest) := by rw [md]; omega
          rw [hm]
          have hr := ihr (pre ++ [x]) (max acc (min (dep x.f5) left)) (by rw [e]; simp) (by omega)
          refine Ans.succ (g := fun k => (marquetryref16_deep.f k x.f5 (left : Int)).bind fun t112 => (marquetryref16_deep.l0 k l ((left + 1 : Nat) : Int) (mx (acc : Int) t112) ((pre ++ [x]).length : Int))) (fun k => ?_) (Ans.bind hd (Ans.congr (fun k => ?_) hr))
          · simp only [marquetryref16_deep.l0]
            rw [if_pos (by omega), if_pos (by omega), hrd, wrap_on (i := (pre.length : Int) + 1) (by omega) (by omega), wrap_on (i := ((left + 1 : Nat) : Int) - 1) (by omega) (by omega), show ((left + 1 : Nat) : Int) - 1 = (left : Int) by omega]
            simp
          · have e3 : mx (acc : Int) ((min (dep x.f5) left : Nat) : Int) = ((max acc (min (dep x.f5) left) : Nat) : Int) := by
              unfold mx
              split <;> omega
            rw [e3]
      have hL := loop l [] 0 rfl (by omega)
      have e4 : 1 + max 0 (md left l) = min (dep l) (left + 1) := by rw [← md_min left l h0]; omega
      rw [e4] at hL
      have hz : (((left + 1 : Nat) : Int) == 0) = false := beq_eq_false_iff_ne.mpr (by omega)
      refine Ans.succ (g := fun k => marquetryref16_deep.j0 k l ((left + 1 : Nat) : Int) false) (fun k => by simp only [marquetryref16_deep.f]; rw [if_neg (by omega), hz]) (Ans.succ (g := fun k => marquetryref16_deep.l0 k l ((left + 1 : Nat) : Int) 0 0) (fun k => by simp only [marquetryref16_deep.j0]; rw [if_neg (by decide)]) hL)
/-- May a node's kind be? -/
def kindB (x : S62) : Bool := if x.f2 = true then (decide (0 < x.f5.length) && (decide (x.f3 = 0) && decide (x.f4 = 0))) else (decide (x.f5.length = 0) && decide (datum_Check.v x.f3 x.f4 = 0))
theorem kind_is (x : S62) : schema_kind.f x.f0 x.f1 x.f2 x.f3 x.f4 x.f5 = some (kindB x) := by
  unfold schema_kind.f kindB
  by_cases h2 : x.f2 = true
  · rw [if_pos h2, if_pos h2]
    by_cases hl : 0 < x.f5.length
    · rw [if_pos (by omega), decide_eq_true hl]
      by_cases h3 : x.f3 = 0
      · rw [if_pos h3, decide_eq_true h3]
        by_cases h4 : x.f4 = 0 <;> simp [h4]
      · rw [if_neg h3, decide_eq_false h3]
        rfl
    · rw [if_neg (by omega), decide_eq_false hl]
      rfl
  · rw [if_neg h2, if_neg h2]
    by_cases hl : x.f5.length = 0
    · rw [if_pos (by omega), decide_eq_true hl]
      show some (datum_Check.v x.f3 x.f4 == 0) = _
      by_cases h4 : datum_Check.v x.f3 x.f4 = 0 <;> simp [h4]
    · rw [if_neg (by omega), decide_eq_false hl]
      rfl
theorem okN_is (x : S62) : okN x = (nameB x.f0 && (decide (0 ≤ x.f1) && (decide (x.f1 ≤ 2) && kindB x))) := by
  unfold okN
  rw [kind_is]
  cases kindB x <;> simp
/-- Nodes beside one another may be, but how many and how deep. -/
def fineS : List S62 → List (List UInt8) → Bool
  | [], _ => true
  | ⟨a, b, c, d, e, k⟩ :: xs, seen => okN ⟨a, b, c, d, e, k⟩ && (!decide (a.data.toList ∈ seen) && (fineS k [] && fineS xs (a.data.toList :: seen)))
theorem fineS_nil (seen : List (List UInt8)) : fineS [] seen = true := by rw [fineS]
theorem fineS_cons (x : S62) (xs : List S62) (seen : List (List UInt8)) : fineS (x :: xs) seen = (okN x && (!decide (x.f0.data.toList ∈ seen) && (fineS x.f5 [] && fineS xs (x.f0.data.toList :: seen)))) := by
  cases x
  rw [fineS]
/-- The program's walk over nodes: told by how many, how deep, and the rest. -/
theorem fineN_is : ∀ (n : Nat) (l : List S62), SizeOf.sizeOf l ≤ n → ∀ (deep left : Int) (seen : List (List UInt8)), 0 ≤ left → deep ≤ 33 →
    ((fineN l deep left seen).1 = true ↔ ((tot l : Int) ≤ left ∧ deep + (dep l : Int) ≤ 33 ∧ fineS l seen = true)) ∧ ((fineN l deep left seen).1 = true → (fineN l deep left seen).2 = left - (tot l : Int)) := by
  intro n
  induction n with
  | zero =>
    intro l hn
    exfalso
    cases l <;> simp at hn
  | succ n ih =>
    intro l hn deep left seen h0 hd
    cases l with
    | nil =>
      rw [fineN, tot_nil, dep_nil, fineS_nil]
      exact ⟨⟨fun _ => ⟨h0, by omega, rfl⟩, fun _ => rfl⟩, fun _ => by show left = left - ((0 : Nat) : Int); omega⟩
    | cons x xs =>
      have s1 : SizeOf.sizeOf x.f5 ≤ n := by have := szn_node' x; simp at hn; omega
      have s2 : SizeOf.sizeOf xs ≤ n := by simp at hn; omega
      rw [fineN_cons, tot_cons, dep_cons, fineS_cons]
      by_cases hb : left - 1 < 0 ∨ deep > 32 ∨ x.f0.data.toList ∈ seen ∨ okN x = false
      · rw [if_pos hb]
        refine ⟨⟨fun h => (by cases h), fun h => ?_⟩, fun h => (by cases h)⟩
        exfalso
        obtain ⟨q1, q2, q3⟩ := h
        simp only [Bool.and_eq_true, Bool.not_eq_true', decide_eq_false_iff_not] at q3
        rcases hb with hb | hb | hb | hb
        · omega
        · omega
        · exact q3.2.1 hb
        · rw [hb] at q3
          cases q3.1
      · rw [if_neg hb]
        have hb1 : ¬ left - 1 < 0 := fun h => hb (.inl h)
        have hb2 : ¬ deep > 32 := fun h => hb (.inr (.inl h))
        have hb3 : x.f0.data.toList ∉ seen := fun h => hb (.inr (.inr (.inl h)))
        have hb4 : okN x = true := by
          cases h : okN x with
          | true => rfl
          | false => exact absurd (.inr (.inr (.inr h))) hb
        obtain ⟨i1, i2⟩ := ih x.f5 s1 (deep + 1) (left - 1) [] (by omega) (by omega)
        rw [hb4, decide_eq_false hb3]
        by_cases hf : (fineN x.f5 (deep + 1) (left - 1) []).1 = false
        · rw [if_pos hf]
          refine ⟨⟨fun h => (by cases h), fun h => ?_⟩, fun h => (by cases h)⟩
          exfalso
          obtain ⟨q1, q2, q3⟩ := h
          simp only [Bool.and_eq_true, Bool.not_false, true_and] at q3
          rw [i1.2 ⟨by omega, by omega, q3.1⟩] at hf
          cases hf
        · rw [if_neg hf]
          have hf2 : (fineN x.f5 (deep + 1) (left - 1) []).1 = true := by
            cases h : (fineN x.f5 (deep + 1) (left - 1) []).1 with
            | true => rfl
            | false => exact absurd h hf
          obtain ⟨j1, j2, j3⟩ := i1.1 hf2
          have e := i2 hf2
          rw [e]
          obtain ⟨k1, k2⟩ := ih xs s2 deep (left - 1 - (tot x.f5 : Int)) (x.f0.data.toList :: seen) (by omega) hd
          rw [j3]
          simp only [Bool.not_false, Bool.true_and]
          refine ⟨⟨fun h => ?_, fun h => ?_⟩, fun h => ?_⟩
          · obtain ⟨q1, q2, q3⟩ := k1.1 h
            exact ⟨by omega, by omega, q3⟩
          · exact k1.2 ⟨by omega, by omega, h.2.2⟩
          · rw [k2 h]
            omega
/-- The names of nodes, the last one first. -/
def namesR : List S62 → List (List UInt8) → List (List UInt8)
  | [], s => s
  | x :: xs, s => namesR xs (x.f0.data.toList :: s)
theorem namesR_snoc (l : List S62) (x : S62) : ∀ s, namesR (l ++ [x]) s = x.f0.data.toList :: namesR l s := by
  induction l with
  | nil => intro s; rfl
  | cons y l ih => intro s; exact ih _
theorem namesR_mem (t : List UInt8) : ∀ (l : List S62) (s : List (List UInt8)), t ∈ namesR l s ↔ (t ∈ s ∨ ∃ y ∈ l, y.f0.data.toList = t)
  | [], s => by simp [namesR]
  | x :: l, s => by
    rw [namesR, namesR_mem t l]
    constructor
    · rintro (h | ⟨y, hy, e⟩)
      · rcases List.mem_cons.mp h with h | h
        · exact .inr ⟨x, List.mem_cons_self, h.symm⟩
        · exact .inl h
      · exact .inr ⟨y, List.mem_cons_of_mem _ hy, e⟩
    · rintro (h | ⟨y, hy, e⟩)
      · exact .inl (List.mem_cons_of_mem _ h)
      · rcases List.mem_cons.mp hy with rfl | h
        · exact .inl (by rw [e]; exact List.mem_cons_self)
        · exact .inr ⟨y, h, e⟩
theorem fine_ans {l : List S62} (h : Sm l) : Ans (fun k => marquetryref16_fine.f k l) (fineS l []) := by
  induction h with
  | mk l hl hk ih =>
    have l1 : ∀ (i j : Nat), i < l.length → j ≤ i → ∀ a0 a1 a2 a3 a4 a5 (e q : Bool), (q = true ↔ ∃ t, j ≤ t ∧ t < i ∧ ∃ ht : t < l.length, (l[t]).f0.data.toList = a0.data.toList) → Ans (fun k => (marquetryref16_named.f k a0).bind fun t117 => (if t117 = true then (if a1 < 0 then (marquetryref16_fine.j2 k l (i : Int) true a0 a1 a2 a3 a4 a5) else (marquetryref16_fine.j2 k l (i : Int) (decide (a1 > 2)) a0 a1 a2 a3 a4 a5)) else (marquetryref16_fine.j2 k l (i : Int) true a0 a1 a2 a3 a4 a5))) e →
        Ans (fun k => marquetryref16_fine.l1 k l (i : Int) (j : Int) a0 a1 a2 a3 a4 a5) (!q && e) := by
      intro i j hi hj a0 a1 a2 a3 a4 a5 e q hq hend
      obtain ⟨d, hd⟩ : ∃ d, d = i - j := ⟨_, rfl⟩
      induction d generalizing j with
      | zero =>
        have hqf : q = false := by
          cases q with
          | false => rfl
          | true =>
            obtain ⟨t, h1, h2, _⟩ := hq.1 rfl
            omega
        subst hqf
        refine Ans.succ (fun k => ?_) hend
        simp only [marquetryref16_fine.l1]
        rw [if_neg (by omega)]
      | succ d ihd =>
        have hjl : j < l.length := by omega
        have hrj : rd_T62 l (j : Int) = l[j] := by unfold rd_T62; simp [List.getD, hjl]
        by_cases hs : (l[j]).f0.data.toList = a0.data.toList
        · rw [hq.2 ⟨j, Nat.le_refl _, by omega, hjl, hs⟩]
          refine Ans.succ (g := fun _ => some false) (fun k => ?_) (Ans.const _)
          simp only [marquetryref16_fine.l1]
          rw [if_pos (by omega), if_pos (by omega), if_pos (by omega), hrj, if_pos (by rw [Lib.toList_data, Lib.toList_data]; exact hs)]
        · have hb := ihd (j + 1) (by omega) (hq.trans ⟨fun ⟨t, h1, h2, h3, h4⟩ => by
            rcases Nat.eq_or_lt_of_le h1 with h | h
            · subst h
              exact absurd h4 hs
            · exact ⟨t, h, h2, h3, h4⟩, fun ⟨t, h1, h2⟩ => ⟨t, by omega, h2⟩⟩) (by omega)
          refine Ans.succ (fun k => ?_) hb
          simp only [marquetryref16_fine.l1]
          rw [if_pos (by omega), if_pos (by omega), if_pos (by omega), hrj, if_neg (by rw [Lib.toList_data, Lib.toList_data]; exact hs), wrap_on (by omega) (by omega)]
          rfl
    have loop : ∀ (rest pre : List S62), l = pre ++ rest → Ans (fun k => marquetryref16_fine.l0 k l (pre.length : Int)) (fineS rest (namesR pre [])) := by
      intro rest
      induction rest with
      | nil =>
        intro pre e
        have e2 : l.length = pre.length := by rw [e]; simp
        rw [fineS_nil]
        refine Ans.succ (g := fun _ => some true) (fun k => ?_) (Ans.const _)
        simp only [marquetryref16_fine.l0]
        rw [if_neg (by omega)]
      | cons x rest ihr =>
        intro pre e
        have hx : x ∈ l := by rw [e]; simp
        have hlen : l.length = pre.length + (rest.length + 1) := by rw [e]; simp
        have hrd : rd_T62 l (pre.length : Int) = x := by rw [e]; exact rd_mid _ _ _
        have hbn := ihr (pre ++ [x]) (by rw [e]; simp)
        rw [namesR_snoc] at hbn
        rw [fineS_cons, okN_is]
        generalize fineS rest (x.f0.data.toList :: namesR pre []) = R at hbn
        have hnx : ∀ k, marquetryref16_fine.l0 k l (wrap64 ((pre.length : Int) + 1)) = marquetryref16_fine.l0 k l ((pre ++ [x]).length : Int) := fun k => by
          rw [wrap_on (by omega) (by omega)]
          simp
        have hj3 : ∀ b3 : Bool, Ans (fun k => marquetryref16_fine.j3 k l (pre.length : Int) b3 x.f0 x.f1 x.f2 x.f3 x.f4 x.f5) (!b3 && ((x.f2 || (decide (x.f5.length = 0) && decide (datum_Check.v x.f3 x.f4 = 0))) && R)) := by
          intro b3
          cases b3 with
          | true => exact Ans.succ (g := fun _ => some false) (fun k => by simp only [marquetryref16_fine.j3]; rw [if_pos trivial]) (Ans.const _)
          | false =>
            cases hg : x.f2 with
            | true => exact Ans.succ (fun k => by simp only [marquetryref16_fine.j3]; rw [if_neg (by decide), if_pos trivial, hnx]) hbn
            | false =>
              by_cases hk0 : (x.f5.length : Int) > 0
              · rw [decide_eq_false (show ¬ x.f5.length = 0 by omega)]
                exact Ans.succ (g := fun _ => some false) (fun k => by simp only [marquetryref16_fine.j3]; rw [if_neg (by decide), if_neg (by decide), if_pos hk0]) (Ans.const _)
              · rw [decide_eq_true (show x.f5.length = 0 by omega)]
                have hc := check09_ans x.f3 x.f4
                generalize decide (datum_Check.v x.f3 x.f4 = 0) = c at hc
                cases c with
                | true => exact Ans.succ (g := fun k => (marquetryref09_Check.f k x.f3 x.f4).bind fun t119 => (if t119 = true then (marquetryref16_fine.l0 k l ((pre ++ [x]).length : Int)) else (some false))) (fun k => by simp only [marquetryref16_fine.j3]; rw [if_neg (by decide), if_neg (by decide), if_neg hk0, hnx]) (Ans.bind hc (Ans.pos rfl hbn))
                | false => exact Ans.succ (g := fun k => (marquetryref09_Check.f k x.f3 x.f4).bind fun t119 => (if t119 = true then (marquetryref16_fine.l0 k l ((pre ++ [x]).length : Int)) else (some false))) (fun k => by simp only [marquetryref16_fine.j3]; rw [if_neg (by decide), if_neg (by decide), if_neg hk0, hnx]) (Ans.bind hc (Ans.neg (by decide) (Ans.const _)))
        have hj2 : ∀ b2 : Bool, Ans (fun k => marquetryref16_fine.j2 k l (pre.length : Int) b2 x.f0 x.f1 x.f2 x.f3 x.f4 x.f5) (!b2 && (kindB x && (fineS x.f5 [] && R))) := by
          intro b2
          cases b2 with
          | true => exact Ans.succ (g := fun _ => some false) (fun k => by simp only [marquetryref16_fine.j2]; rw [if_pos trivial]) (Ans.const _)
          | false =>
            unfold kindB
            by_cases hg : x.f2 = true
            · rw [if_pos hg]
              by_cases hz : (x.f5.length : Int) = 0
              · rw [decide_eq_false (show ¬ 0 < x.f5.length by omega)]
                exact Ans.succ (fun k => by simp only [marquetryref16_fine.j2]; rw [if_neg (by decide), if_pos hg, if_pos hz]) (hj3 true)
              · rw [decide_eq_true (show 0 < x.f5.length by omega)]
                by_cases h3 : x.f3 = 0
                · rw [decide_eq_true h3]
                  by_cases h4 : x.f4 = 0
                  · rw [decide_eq_true h4]
                    have hc := ih x hx
                    have hb := hj3 (!(fineS x.f5 []))
                    rw [Bool.not_not, hg, Bool.true_or, Bool.true_and] at hb
                    exact Ans.succ (g := fun k => (marquetryref16_fine.f k x.f5).bind fun t118 => (marquetryref16_fine.j3 k l (pre.length : Int) (!t118) x.f0 x.f1 x.f2 x.f3 x.f4 x.f5)) (fun k => by simp only [marquetryref16_fine.j2]; rw [if_neg (by decide), if_pos hg, if_neg hz, if_pos h3, if_pos h4]) (Ans.bind hc (by rw [hg]; exact hb))
                  · rw [decide_eq_false h4]
                    exact Ans.succ (fun k => by simp only [marquetryref16_fine.j2]; rw [if_neg (by decide), if_pos hg, if_neg hz, if_pos h3, if_neg h4]) (hj3 true)
                · rw [decide_eq_false h3]
                  exact Ans.succ (fun k => by simp only [marquetryref16_fine.j2]; rw [if_neg (by decide), if_pos hg, if_neg hz, if_neg h3]) (hj3 true)
            · rw [if_neg hg]
              have hb := hj3 false
              have hgf : x.f2 = false := by cases h : x.f2 with
                | true => exact absurd h hg
                | false => rfl
              have e1 : (!false && ((x.f2 || (decide (x.f5.length = 0) && decide (datum_Check.v x.f3 x.f4 = 0))) && R)) = (!false && (decide (x.f5.length = 0) && decide (datum_Check.v x.f3 x.f4 = 0) && (fineS x.f5 [] && R))) := by
                rw [hgf]
                by_cases hz : x.f5.length = 0
                · rw [List.length_eq_zero_iff.mp hz, fineS_nil]
                  simp
                · simp [hz]
              rw [e1] at hb
              exact Ans.succ (fun k => by simp only [marquetryref16_fine.j2]; rw [if_neg (by decide), if_neg hg]) hb
        have hend : Ans (fun k => (marquetryref16_named.f k x.f0).bind fun t117 => (if t117 = true then (if x.f1 < 0 then (marquetryref16_fine.j2 k l (pre.length : Int) true x.f0 x.f1 x.f2 x.f3 x.f4 x.f5) else (marquetryref16_fine.j2 k l (pre.length : Int) (decide (x.f1 > 2)) x.f0 x.f1 x.f2 x.f3 x.f4 x.f5)) else (marquetryref16_fine.j2 k l (pre.length : Int) true x.f0 x.f1 x.f2 x.f3 x.f4 x.f5))) (nameB x.f0 && (decide (0 ≤ x.f1) && (decide (x.f1 ≤ 2) && (kindB x && (fineS x.f5 [] && R))))) := by
          have hcn := named_ans x.f0
          generalize nameB x.f0 = cn at hcn
          cases cn with
          | true =>
            by_cases hr : x.f1 < 0
            · rw [decide_eq_false (show ¬ 0 ≤ x.f1 by omega)]
              exact Ans.bind hcn (Ans.pos rfl (Ans.pos hr (hj2 true)))
            · rw [decide_eq_true (show 0 ≤ x.f1 by omega)]
              have hb := hj2 (decide (x.f1 > 2))
              have e1 : (!decide (x.f1 > 2)) = decide (x.f1 ≤ 2) := by
                by_cases h : x.f1 ≤ 2
                · rw [decide_eq_true h, decide_eq_false (by omega)]; rfl
                · rw [decide_eq_false h, decide_eq_true (by omega)]; rfl
              rw [e1] at hb
              exact Ans.bind hcn (Ans.pos rfl (Ans.neg hr hb))
          | false => exact Ans.bind hcn (Ans.neg (by decide) (hj2 true))
        have hmem : decide (x.f0.data.toList ∈ namesR pre []) = true ↔ ∃ t, 0 ≤ t ∧ t < pre.length ∧ ∃ ht : t < l.length, (l[t]).f0.data.toList = x.f0.data.toList := by
          rw [decide_eq_true_eq, namesR_mem]
          subst e
          constructor
          · rintro (h | ⟨y, hy, h⟩)
            · cases h
            · obtain ⟨t, ht, rfl⟩ := List.getElem_of_mem hy
              exact ⟨t, Nat.zero_le _, ht, by simp; omega, by rw [List.getElem_append_left ht]; exact h⟩
          · rintro ⟨t, _, h2, h3, h4⟩
            rw [List.getElem_append_left h2] at h4
            exact .inr ⟨pre[t], List.getElem_mem h2, h4⟩
        have hfin := l1 pre.length 0 (by omega) (by omega) x.f0 x.f1 x.f2 x.f3 x.f4 x.f5 _ _ hmem hend
        have e9 : (!decide (x.f0.data.toList ∈ namesR pre []) && (nameB x.f0 && (decide (0 ≤ x.f1) && (decide (x.f1 ≤ 2) && (kindB x && (fineS x.f5 [] && R)))))) = (nameB x.f0 && (decide (0 ≤ x.f1) && (decide (x.f1 ≤ 2) && kindB x)) && (!decide (x.f0.data.toList ∈ namesR pre []) && (fineS x.f5 [] && R))) := by
          generalize decide (x.f0.data.toList ∈ namesR pre []) = q0
          generalize nameB x.f0 = q1
          generalize decide (0 ≤ x.f1) = q2
          generalize decide (x.f1 ≤ 2) = q3
          generalize kindB x = q4
          generalize fineS x.f5 [] = q5
          cases q0 <;> cases q1 <;> cases q2 <;> cases q3 <;> cases q4 <;> simp
        rw [e9] at hfin
        refine Ans.succ (fun k => ?_) hfin
        simp only [marquetryref16_fine.l0]
        rw [if_pos (by omega), if_pos (by omega), hrd]
        rfl
    exact Ans.succ (fun k => by simp only [marquetryref16_fine.f]; rfl) (loop l [] rfl)
/-- May a schema be? -/
def checkB (name : ByteArray) (l : List S62) : Bool := nameB name && (decide (l.length ≠ 0) && (fineN l 1 256 []).1)
theorem check_ans (name : ByteArray) {l : List S62} (h : Sm l) : Ans (fun k => marquetryref16_Check.f k name l) (checkB name l) := by
  obtain ⟨c, hc, hc2⟩ := count_all h
  have hd := deep_all h 33 (by omega)
  have hf := fine_ans h
  have hn := named_ans name
  obtain ⟨hi, -⟩ := fineN_is _ l (Nat.le_refl _) 1 256 [] (by omega) (by omega)
  unfold marquetryref16_Check.f checkB
  generalize nameB name = cn at hn
  cases cn with
  | false => exact Ans.bind hn (Ans.neg (by decide) (Ans.const _))
  | true =>
    by_cases h0 : (l.length : Int) > 0
    · rw [decide_eq_true (show l.length ≠ 0 by omega)]
      rw [Bool.true_and, Bool.true_and]
      by_cases h1 : c ≤ 256
      · by_cases h2 : ((min (dep l) 33 : Nat) : Int) ≤ 32
        · obtain ⟨_, _, q2, q3⟩ := hc2 (by omega)
          have ht : tot l ≤ 256 := by
            by_cases ht : tot l ≤ 256
            · exact ht
            · have := q3 (by omega); omega
          have e : (fineN l 1 256 []).1 = fineS l [] := by
            cases hx : fineS l [] with
            | true => exact hi.2 ⟨by omega, by omega, hx⟩
            | false =>
              cases hy : (fineN l 1 256 []).1 with
              | false => rfl
              | true => rw [(hi.1 hy).2.2] at hx; cases hx
          rw [e]
          exact Ans.bind hn (Ans.pos rfl (Ans.pos h0 (Ans.bind hc (Ans.pos h1 (Ans.bind hd (Ans.pos h2 (Ans.bind (g := fun _ t => some t) hf (Ans.const _))))))))
        · have e : (fineN l 1 256 []).1 = false := by
            cases hy : (fineN l 1 256 []).1 with
            | false => rfl
            | true => have := (hi.1 hy).2.1; omega
          rw [e]
          exact Ans.bind hn (Ans.pos rfl (Ans.pos h0 (Ans.bind hc (Ans.pos h1 (Ans.bind hd (Ans.neg h2 (Ans.const _)))))))
      · have e : (fineN l 1 256 []).1 = false := by
          cases hy : (fineN l 1 256 []).1 with
          | false => rfl
          | true =>
            obtain ⟨p1, p2, _⟩ := hi.1 hy
            obtain ⟨_, _, q2, q3⟩ := hc2 (by omega)
            have := q2 (by omega)
            omega
        rw [e]
        exact Ans.bind hn (Ans.pos rfl (Ans.pos h0 (Ans.bind hc (Ans.neg h1 (Ans.const _)))))
    · rw [decide_eq_false (show ¬ l.length ≠ 0 by omega)]
      exact Ans.bind hn (Ans.pos rfl (Ans.neg h0 (Ans.const _)))
theorem eta_n (x : S62) : x = ⟨x.f0, x.f1, x.f2, x.f3, x.f4, x.f5⟩ := by
  cases x
  rfl
theorem wrap_succ (i : Nat) (h : i ≤ 100000000000000) : wrap64 ((i : Int) + 1) = ((i + 1 : Nat) : Int) := by
  rw [wrap_on (by omega) (by omega)]
  omega
/-- Lists of nodes of which none is so long that it has no room. -/
inductive Rm : List S62 → Prop
  | mk (l : List S62) (hl : l.length < 1954687338268) (hk : ∀ x, x ∈ l → Rm x.f5) : Rm l
theorem Rm.sm {l : List S62} (h : Rm l) : Sm l := by
  induction h with
  | mk l hl hk ih => exact Sm.mk l (by omega) ih
end Go.Proofs.YtjdjlccdidfgoaaDoor.SckAid
end
section
/- A copy of a schema is the schema; a schema is the same as itself. -/
namespace Go.Proofs.YtjdjlccdidfgoaaDoor.SckCpy
open Go.RowKit Go.Proofs.YtjdjlccdidfgoaaDoorW.PrintWords Go.Proofs.YtjdjlccdidfgoaaDoorW.PrintLast Go.Proofs.YtjdjlccdidfgoaaDoorW.PrintMore Go.Proofs.YtjdjlccdidfgoaaDoor.H Go.Proofs.YtjdjlccdidfgoaaDoor.SckAid
set_option linter.unusedVariables false
set_option linter.unusedSimpArgs false
theorem sameN_self : ∀ (n : Nat) (l : List S62), SizeOf.sizeOf l ≤ n → sameN l l = true := by
  intro n
  induction n with
  | zero =>
    intro l hn
    exfalso
    cases l <;> simp at hn
  | succ n ih =>
    intro l hn
    cases l with
    | nil => rw [sameN]
    | cons x xs =>
      have s1 : SizeOf.sizeOf x.f5 ≤ n := by have := szn_node' x; simp at hn; omega
      have s2 : SizeOf.sizeOf xs ≤ n := by simp at hn; omega
      cases x
      rw [sameN, ih _ s1, ih _ s2]
      simp [sameHd]
end Go.Proofs.YtjdjlccdidfgoaaDoor.SckCpy
end
