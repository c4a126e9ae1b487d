/- Texts of the claim, packed: RckAid. -/
import Derived.Test.YtnbmgljcnbhinaaDoorZRecordsCheck7
import Derived.Test.YtnbmgljcnbhinaaDoorZRecordsCheck9
import Derived.Test.YtnbmgljcnbhinaaDoorZRecordsCheck11
import Derived.Test.YtnbmgljcnbhinaaDoorZRecordsCheck13
import Derived.Test.YtnbmgljcnbhinaaDoorZRecordsCheck14
import Derived.Test.YtnbmgljcnbhinaaDoorZRecordsCheck16
import Derived.Test.YtnbmgljcnbhinaaDoorZRecordsCheck19
import Derived.Test.YtnbmgljcnbhinaaDoorZRecordsCheck20
section
/- The document's answers about records of a schema, exactly: of, Check. -/
namespace Go.Proofs.YtnbmgljcnbhinaaDoor.RckAid
open Go.RowKit Go.Proofs.YtnbmgljcnbhinaaDoorW.PrintWords Go.Proofs.YtnbmgljcnbhinaaDoorW.PrintLast Go.Proofs.YtnbmgljcnbhinaaDoorW.PrintMore Go.Proofs.YtnbmgljcnbhinaaDoor.H
open Go.Proofs.YtnbmgljcnbhinaaDoor.SckAid (Ans Ans.const Ans.bind Ans.succ Ans.congr Ans.pos Ans.neg Ans.get Ans.up wrap_on wrap_succ count_all check_ans checkB fineS fineS_cons fineS_nil fineN_is okN_is)
set_option linter.unusedVariables false
set_option linter.unusedSimpArgs false
theorem rdF (l : List S70) (i : Nat) (h : i < l.length) : rd_T70 l (i : Int) = l[i] := by
  unfold rd_T70
  simp [List.getD, h]
theorem rdV (l : List S74) (i : Nat) (h : i < l.length) : rd_T74 l (i : Int) = l[i] := by
  unfold rd_T74
  simp [List.getD, h]
/-- Nothing in it is vast. -/
inductive Sm : List S70 → Prop
  | mk (l : List S70) (hl : l.length < 5864062014805) (hb : ∀ x ∈ l, x.f0.length < 2513169434916) (hk : ∀ x ∈ l, ∀ v ∈ x.f0, Sm v.f1) : Sm l
/-- What the document's count is at c values that have been counted. -/
def Cn (x : Int) (c : Nat) : Prop := (x = c ∧ c ≤ 2097152) ∨ (1048576 ≤ x ∧ x ≤ 2097152 ∧ 1048576 ≤ c)
theorem Cn.mn_ {x : Int} {c : Nat} (h : Cn x c) : mn x 1048576 = ((min c 1048576 : Nat) : Int) := by
  unfold mn
  rcases h with ⟨h, h2⟩ | ⟨h, h2, h3⟩
  · split <;> omega
  · split <;> omega
theorem Cn.step {x : Int} {c d : Nat} (h : Cn x c) (hx : ¬ x ≥ 1048576) : Cn (wrap64 (wrap64 (x + 1) + ((min d 1048576 : Nat) : Int))) (c + 1 + d) := by
  rcases h with ⟨h, h2⟩ | ⟨h, h2, h3⟩
  · have e1 : wrap64 (x + 1) = x + 1 := wrap_on (by omega) (by omega)
    have e2 : wrap64 (x + 1 + ((min d 1048576 : Nat) : Int)) = x + 1 + ((min d 1048576 : Nat) : Int) := wrap_on (by omega) (by omega)
    rw [e1, e2]
    unfold Cn
    by_cases hd : d < 1048576
    · left; omega
    · right; omega
  · omega
theorem size_ans {l : List S70} (h : Sm l) : Ans (fun k => marquetryref17_Size.f k l) ((min (numF l) 1048576 : Nat) : Int) := by
  induction h with
  | mk l hl hb hk ih =>
  have L : ∀ (e i : Nat), i + e = l.length → ∀ (x : Int) (c : Nat), Cn x c → c + numF (l.drop i) = numF l → Ans (fun k => marquetryref17_Size.l0 k l x (i : Int)) ((min (numF l) 1048576 : Nat) : Int) := by
    intro e
    induction e with
    | zero =>
      intro i hi x c hc hn
      refine Ans.succ (g := fun k => some (mn x 1048576)) (fun k => ?_) ?_
      · simp only [marquetryref17_Size.l0]
        rw [if_neg (by omega)]
      · rw [List.drop_eq_nil_of_le (by omega), numF] at hn
        rw [hc.mn_, ← hn]
        exact Ans.const _
    | succ e ihe =>
      intro i hi x c hc hn
      have hil : i < l.length := by omega
      refine Ans.succ (g := fun k => marquetryref17_Size.l1 k l x (i : Int) 0) (fun k => ?_) ?_
      · simp only [marquetryref17_Size.l0]
        rw [if_pos (by omega)]
      have hbi := hb _ (List.getElem_mem hil)
      have M : ∀ (d j : Nat), j + d = l[i].f0.length → ∀ (x : Int) (c : Nat), Cn x c → c + numV (l[i].f0.drop j) + numF (l.drop (i + 1)) = numF l → Ans (fun k => marquetryref17_Size.l1 k l x (i : Int) (j : Int)) ((min (numF l) 1048576 : Nat) : Int) := by
        intro d
        induction d with
        | zero =>
          intro j hj x c hc hn
          refine Ans.succ (g := fun k => marquetryref17_Size.l0 k l x ((i + 1 : Nat) : Int)) (fun k => ?_) ?_
          · simp only [marquetryref17_Size.l1]
            rw [rdF l i hil, if_pos (by omega), if_pos (by omega), if_neg (by omega), wrap_succ i (by omega)]
          · rw [List.drop_eq_nil_of_le (by omega), numV] at hn
            exact ihe (i + 1) (by omega) x c hc (by omega)
        | succ d ihd =>
          intro j hj x c hc hn
          have hjl : j < l[i].f0.length := by omega
          rw [List.drop_eq_getElem_cons hjl, numV_cons] at hn
          by_cases hx : x ≥ 1048576
          · refine Ans.succ (g := fun k => some 1048576) (fun k => ?_) ?_
            · simp only [marquetryref17_Size.l1]
              rw [rdF l i hil, if_pos (by omega), if_pos (by omega), if_pos (by omega), if_pos hx]
            · have : min (numF l) 1048576 = 1048576 := by
                rcases hc with ⟨h, h2⟩ | ⟨h, h2, h3⟩ <;> omega
              rw [this]
              exact Ans.const _
          · refine Ans.succ (g := fun k => (marquetryref17_Size.f k (l[i].f0[j].f1)).bind fun t => marquetryref17_Size.l1 k l (wrap64 (wrap64 (x + 1) + t)) (i : Int) ((j + 1 : Nat) : Int)) (fun k => ?_) ?_
            · simp only [marquetryref17_Size.l1]
              rw [rdF l i hil, if_pos (by omega), if_pos (by omega), if_pos (by omega), if_neg hx, if_pos (by omega), rdV _ j hjl, wrap_succ j (by omega)]
            · exact Ans.bind (ih _ (List.getElem_mem hil) _ (List.getElem_mem hjl)) (ihd (j + 1) (by omega) _ _ (hc.step (d := numF l[i].f0[j].f1) hx) (by omega))
      refine M _ 0 (Nat.zero_add _) x c hc ?_
      rw [List.drop_eq_getElem_cons hil, numF_cons] at hn
      rw [List.drop_zero]
      omega
  refine Ans.succ (g := fun k => marquetryref17_Size.l0 k l 0 0) (fun k => by simp only [marquetryref17_Size.f]) ?_
  exact L _ 0 (Nat.zero_add _) 0 0 (.inl ⟨rfl, by omega⟩) (by rw [List.drop_zero]; omega)
theorem texts_ans {l : List S70} (h : Sm l) : ∃ r, Ans (fun k => marquetrylaw17_texts.f k l) r := by
  induction h with
  | mk l hl hb hk ih =>
  have L : ∀ (e i : Nat), i + e = l.length → ∀ (x : Int), ∃ r, Ans (fun k => marquetrylaw17_texts.l0 k l x (i : Int)) r := by
    intro e
    induction e with
    | zero =>
      intro i hi x
      refine ⟨x, Ans.succ (g := fun k => some x) (fun k => ?_) (Ans.const _)⟩
      simp only [marquetrylaw17_texts.l0]
      rw [if_neg (by omega)]
    | succ e ihe =>
      intro i hi x
      have hil : i < l.length := by omega
      have hbi := hb _ (List.getElem_mem hil)
      have M : ∀ (d j : Nat), j + d = l[i].f0.length → ∀ (x : Int), ∃ r, Ans (fun k => marquetrylaw17_texts.l1 k l x (i : Int) (j : Int)) r := by
        intro d
        induction d with
        | zero =>
          intro j hj x
          obtain ⟨r, hr⟩ := ihe (i + 1) (by omega) x
          refine ⟨r, Ans.succ (fun k => ?_) hr⟩
          simp only [marquetrylaw17_texts.l1]
          rw [rdF l i hil, if_pos (by omega), if_pos (by omega), if_neg (by omega), wrap_succ i (by omega)]
        | succ d ihd =>
          intro j hj x
          have hjl : j < l[i].f0.length := by omega
          obtain ⟨t, ht⟩ := ih _ (List.getElem_mem hil) _ (List.getElem_mem hjl)
          obtain ⟨r, hr⟩ := ihd (j + 1) (by omega) (wrap64 ((wrap64 (x + ((l[i].f0[j].f0.f2).size : Int))) + t))
          refine ⟨r, Ans.succ (g := fun k => (marquetrylaw17_texts.f k (l[i].f0[j].f1)).bind fun t => marquetrylaw17_texts.l1 k l (wrap64 ((wrap64 (x + ((l[i].f0[j].f0.f2).size : Int))) + t)) (i : Int) ((j + 1 : Nat) : Int)) (fun k => ?_) (Ans.bind ht hr)⟩
          simp only [marquetrylaw17_texts.l1]
          rw [rdF l i hil, if_pos (by omega), if_pos (by omega), if_pos (by omega), if_pos (by omega), rdV _ j hjl, wrap_succ j (by omega)]
      obtain ⟨r, hr⟩ := M _ 0 (Nat.zero_add _) x
      refine ⟨r, Ans.succ (g := fun k => marquetrylaw17_texts.l1 k l x (i : Int) 0) (fun k => ?_) hr⟩
      simp only [marquetrylaw17_texts.l0]
      rw [if_pos (by omega)]
  obtain ⟨r, hr⟩ := L _ 0 (Nat.zero_add _) (l.length : Int)
  exact ⟨r, Ans.succ (g := fun k => marquetrylaw17_texts.l0 k l (l.length : Int) 0) (fun k => by simp only [marquetrylaw17_texts.f]) hr⟩
/-- Records that may be read: nothing vast, every number one of 64 bits. -/
inductive Vl : List S70 → Prop
  | mk (l : List S70) (hl : l.length < 5864062014805) (hb : ∀ x ∈ l, x.f0.length < 2513169434916) (hi : ∀ x ∈ l, ∀ v ∈ x.f0, -9223372036854775808 ≤ v.f0.f1 ∧ v.f0.f1 ≤ 9223372036854775807) (hk : ∀ x ∈ l, ∀ v ∈ x.f0, Vl v.f1) : Vl l
theorem Vl.sm {l : List S70} (h : Vl l) : Sm l := by
  induction h with
  | mk l hl hb hi hk ih => exact Sm.mk l hl hb ih
/-- The repetitions are such as may be. -/
inductive Rp : List S64 → Prop
  | mk (l : List S64) (hl : l.length < 1954687338268) (hr : ∀ x ∈ l, 0 ≤ x.f1 ∧ x.f1 ≤ 2) (hk : ∀ x ∈ l, Rp x.f5) : Rp l
theorem ref09_of (x : S72) (k1 s1 : Int) (hi : -9223372036854775808 ≤ x.f1 ∧ x.f1 ≤ 9223372036854775807) : marquetryref09_Of.f 1 x.f0 x.f1 x.f2 k1 s1 = datum_Of.f x.f0 x.f1 x.f2 k1 s1 := by
  obtain ⟨k, i, t⟩ := x
  unfold datum_Of.f marquetryref09_Of.f
  have e1 : datum_Check.f k1 s1 = some (datum_Check.v k1 s1) := rfl
  have e2 : datum_fine.f k i t = some (datum_fine.v k i t) := rfl
  have e3 := DatAid.ref_check k1 s1
  have e4 := DatAid.ref_fine k i t hi
  simp only []
  rw [e1, e2, e3, e4]
  generalize datum_Check.v k1 s1 = c
  generalize datum_fine.v k i t = f
  by_cases hc : c = 0
  · subst hc
    cases f
    · rfl
    · by_cases hk : k = k1
      · by_cases h7 : k1 = 7 <;> simp [hk, h7]
      · simp [hk]
  · simp [hc]
theorem up1 {f : Nat → Option Bool} {r : Bool} (hm : ∀ k, LeO (f k) (f (k + 1))) (h : f 1 = some r) : ∀ k, 1 ≤ k → f k = some r := by
  intro k hk
  obtain ⟨d, rfl⟩ : ∃ d, k = 1 + d := ⟨k - 1, by omega⟩
  clear hk
  induction d with
  | zero => exact h
  | succ d ih => exact hm _ r ih
theorem all_congr {α : Type} {p q : α → Bool} : ∀ l : List α, (∀ v ∈ l, p v = q v) → l.all p = l.all q
  | [], _ => rfl
  | x :: l, h => by rw [List.all_cons, List.all_cons, h x List.mem_cons_self, all_congr l (fun v hv => h v (List.mem_cons_of_mem _ hv))]
theorem cnt_same (r : Int) (c : Nat) (h : 0 ≤ r ∧ r ≤ 2) : cntR r c = cntB r c := by
  unfold cntR cntB
  have hcase : r = 0 ∨ r = 1 ∨ r = 2 := by omega
  rcases hcase with hr | hr | hr
  · subst hr
    simp
  · subst hr
    by_cases h1 : c = 1
    · subst h1
      rfl
    · by_cases h0 : c = 0
      · subst h0
        rfl
      · rw [decide_eq_false h1, decide_eq_false h0, if_neg (by decide), if_pos rfl, decide_eq_false (by omega)]
        rfl
  · subst hr
    simp
theorem ofR_is (k : Nat) (hk1 : 1 ≤ k) : ∀ (n : Nat) (ns : List S64), SizeOf.sizeOf ns ≤ n → Rp ns → ∀ fs : List S70, Vl fs → okR k ns fs = true ∧ ofR k ns fs = ofB ns fs := by
  intro n
  induction n with
  | zero =>
    intro ns hn
    exfalso
    cases ns <;> simp at hn
  | succ n ih =>
    intro ns hn hr fs hv
    cases ns with
    | nil =>
      cases fs with
      | nil => exact ⟨by rw [okR]; intros; simp_all, by rw [ofR, ofB]⟩
      | cons f fs => exact ⟨by rw [okR]; intros; simp_all, (ofR_len k _ _ (by simp)).trans (ofB_len _ _ (by simp)).symm⟩
    | cons x ns =>
      cases fs with
      | nil => exact ⟨by rw [okR]; intros; simp_all, (ofR_len k _ _ (by simp)).trans (ofB_len _ _ (by simp)).symm⟩
      | cons f fs =>
        have s1 : SizeOf.sizeOf x.f5 ≤ n := by have := szo_node x; simp at hn; omega
        have s2 : SizeOf.sizeOf ns ≤ n := by simp at hn; omega
        obtain ⟨_, hl, hrr, hrk⟩ := hr
        obtain ⟨_, vl, vb, vi, vk⟩ := hv
        obtain ⟨i1, i2⟩ := ih ns s2 (Rp.mk ns (by simp at hl; omega) (fun y hy => hrr y (List.mem_cons_of_mem _ hy)) (fun y hy => hrk y (List.mem_cons_of_mem _ hy))) fs (Vl.mk fs (by simp at vl; omega) (fun y hy => vb y (List.mem_cons_of_mem _ hy)) (fun y hy => vi y (List.mem_cons_of_mem _ hy)) (fun y hy => vk y (List.mem_cons_of_mem _ hy)))
        have hval : ∀ v ∈ f.f0, okV k x v = true ∧ vlR k x v = valB x v := by
          intro v hv
          unfold okV vlR valB
          by_cases hg : x.f2 = true
          · obtain ⟨j1, j2⟩ := ih x.f5 s1 (hrk x List.mem_cons_self) v.f1 (vk f List.mem_cons_self v hv)
            rw [if_pos hg, if_pos hg, if_pos hg, j1, j2]
            exact ⟨rfl, rfl⟩
          · have h9 := up1 (f := fun k => marquetryref09_Of.f k v.f0.f0 v.f0.f1 v.f0.f2 x.f3 x.f4) (fun k => marquetryref09_Of.mono v.f0.f0 v.f0.f1 v.f0.f2 x.f3 x.f4 k) ((ref09_of v.f0 x.f3 x.f4 (vi f List.mem_cons_self v hv)).trans (ofD_is v.f0 x.f3 x.f4)) k hk1
            rw [if_neg hg, if_neg hg, if_neg hg]
            have h9' : marquetryref09_Of.f k v.f0.f0 v.f0.f1 v.f0.f2 x.f3 x.f4 = some (ofD v.f0 x.f3 x.f4) := h9
            rw [h9']
            exact ⟨rfl, rfl⟩
        rw [okR_cons, ofR_cons, ofB_cons, i1, i2, cnt_same _ _ (hrr x List.mem_cons_self), all_congr f.f0 (fun v hv => (hval v hv).2)]
        refine ⟨?_, rfl⟩
        rw [all_congr (q := fun _ => true) f.f0 (fun v hv => (hval v hv).1)]
        simp
theorem Of_ans {fs : List S70} (h : Vl fs) (ns : List S64) (hr : Rp ns) : Ans (fun k => marquetryref17_Of.f k ns fs) (ofB ns fs) := by
  refine ⟨1, fun k hk => ?_⟩
  obtain ⟨h1, h2⟩ := ofR_is k hk _ ns (Nat.le_refl _) hr fs h
  show (if okR k ns fs = true then some (ofR k ns fs) else none) = _
  rw [if_pos h1, h2]
theorem fine_mem : ∀ (l : List S64) (seen : List (List UInt8)), fineS l seen = true → ∀ x ∈ l, (0 ≤ x.f1 ∧ x.f1 ≤ 2) ∧ fineS x.f5 [] = true
  | [], _, _, x, hx => by cases hx
  | y :: l, seen, hf, x, hx => by
    rw [fineS_cons, okN_is] at hf
    simp only [Bool.and_eq_true, decide_eq_true_eq] at hf
    obtain ⟨⟨_, h1, h2, _⟩, _, h3, h4⟩ := hf
    rcases List.mem_cons.mp hx with rfl | hx
    · exact ⟨⟨h1, h2⟩, h3⟩
    · exact fine_mem l _ h4 x hx
theorem rp_of {l : List S64} (h : SckAid.Rm l) : ∀ seen, fineS l seen = true → Rp l := by
  induction h with
  | mk l hl hk ih =>
    intro seen hf
    have hm := fine_mem l seen hf
    exact Rp.mk l hl (fun x hx => (hm x hx).1) (fun x hx => ih x hx [] (hm x hx).2)
theorem rdR (l : List S42) (i : Nat) (h : i < l.length) : rd_T42 l (i : Int) = l[i] := by
  unfold rd_T42
  simp [List.getD, h]
theorem heavy_ans (s : ByteArray) {ns : List S64} (hn : SckAid.Sm ns) (l : List S42) (hl : l.length ≤ 10000000000000) (h : ∀ x ∈ l, Sm x.f0) : ∃ r, Ans (fun k => marquetrylaw17_heavy.f k s ns l) r := by
  obtain ⟨c0, hc, -⟩ := count_all hn
  have L : ∀ (e i : Nat), i + e = l.length → ∀ (x : Int), ∃ r, Ans (fun k => marquetrylaw17_heavy.l0 k l x (i : Int)) r := by
    intro e
    induction e with
    | zero =>
      intro i hi x
      refine ⟨false, Ans.succ (g := fun k => some false) (fun k => ?_) (Ans.const _)⟩
      simp only [marquetrylaw17_heavy.l0]
      rw [if_neg (by omega)]
    | succ e ihe =>
      intro i hi x
      have hil : i < l.length := by omega
      have hs := size_ans (h _ (List.getElem_mem hil))
      obtain ⟨t, ht⟩ := texts_ans (h _ (List.getElem_mem hil))
      obtain ⟨r, hr⟩ := ihe (i + 1) (by omega) (wrap64 (x + ((min (numF l[i].f0) 1048576 : Nat) : Int)))
      have hM : ∃ r, Ans (fun k => (marquetryref17_Size.f k l[i].f0).bind fun t116 => (if (wrap64 (x + t116)) > 300 then (some true) else ((marquetrylaw17_texts.f k l[i].f0).bind fun t118 => (if t118 > 2000 then (some true) else (marquetrylaw17_heavy.l0 k l (wrap64 (x + t116)) ((i + 1 : Nat) : Int)))))) r := by
        by_cases h1 : (wrap64 (x + ((min (numF l[i].f0) 1048576 : Nat) : Int))) > 300
        · exact ⟨true, Ans.bind hs (Ans.pos h1 (Ans.const _))⟩
        by_cases h2 : t > 2000
        · exact ⟨true, Ans.bind hs (Ans.neg h1 (Ans.bind ht (Ans.pos h2 (Ans.const _))))⟩
        · exact ⟨r, Ans.bind hs (Ans.neg h1 (Ans.bind ht (Ans.neg h2 hr)))⟩
      obtain ⟨r, hr⟩ := hM
      refine ⟨r, Ans.succ (fun k => ?_) hr⟩
      simp only [marquetrylaw17_heavy.l0]
      rw [if_pos (by omega), if_pos (by omega), rdR l i hil, wrap_succ i (by omega)]
  have J : ∀ b : Bool, ∃ r, Ans (fun k => marquetrylaw17_heavy.j0 k l b) r := by
    intro b
    cases b with
    | true =>
      refine ⟨true, Ans.succ (g := fun k => some true) (fun k => ?_) (Ans.const _)⟩
      simp only [marquetrylaw17_heavy.j0]
      rw [if_pos (by trivial)]
    | false =>
      obtain ⟨r, hr⟩ := L _ 0 (Nat.zero_add _) 0
      refine ⟨r, Ans.succ (fun k => ?_) hr⟩
      simp only [marquetrylaw17_heavy.j0]
      rw [if_neg (by simp)]
      rfl
  unfold marquetrylaw17_heavy.f
  by_cases h60 : c0 > 60
  · obtain ⟨r, hr⟩ := J true
    exact ⟨r, Ans.bind hc (Ans.pos h60 hr)⟩
  · obtain ⟨r, hr⟩ := J (decide ((l.length : Int) > 40))
    exact ⟨r, Ans.bind hc (Ans.neg h60 hr)⟩
/-- What a check answers about records, behind the schema's. -/
def ansB (ns : List S64) (l : List S42) (t : Int) : Int := if l.length > 65536 ∨ t > 65536 then 3 else allB ns l
theorem ref_check_ans (name : ByteArray) {ns : List S64} (hn : SckAid.Rm ns) (l : List S42) (hl : l.length ≤ 10000000000000) (h : ∀ r ∈ l, Vl r.f0) : Ans (fun k => marquetryref17_Check.f k name ns l) (if checkB name ns = true then ansB ns l (tots_ l 0) else 2) := by
  unfold marquetryref17_Check.f
  refine Ans.bind (check_ans name hn.sm) ?_
  cases hck : checkB name ns with
  | false => exact Ans.neg (by decide) (Ans.const _)
  | true =>
  refine Ans.pos rfl ?_
  rw [if_pos rfl]
  have hfs : fineS ns [] = true := by
    unfold checkB at hck
    simp only [Bool.and_eq_true] at hck
    obtain ⟨hi, -⟩ := fineN_is _ ns (Nat.le_refl _) 1 256 [] (by omega) (by omega)
    exact (hi.1 hck.2.2).2.2
  have hrp := rp_of hn [] hfs
  have L1 : ∀ (e i : Nat), i + e = l.length → Ans (fun k => marquetryref17_Check.l1 k l (i : Int) name ns) (allB ns (l.drop i)) := by
    intro e
    induction e with
    | zero =>
      intro i hi
      rw [List.drop_eq_nil_of_le (by omega)]
      exact Ans.succ (g := fun _ => some 0) (fun k => by simp only [marquetryref17_Check.l1]; rw [if_neg (by omega)]) (Ans.const _)
    | succ e ihe =>
      intro i hi
      have hil : i < l.length := by omega
      rw [List.drop_eq_getElem_cons hil, allB_cons]
      have hnext := ihe (i + 1) (by omega)
      refine Ans.succ (g := fun k => (marquetryref17_Of.f k ns l[i].f0).bind fun t => if t = true then marquetryref17_Check.l1 k l ((i + 1 : Nat) : Int) name ns else some 270) (fun k => by simp only [marquetryref17_Check.l1]; rw [if_pos (by omega), if_pos (by omega), rdR l i hil, wrap_succ i (by omega)]) (Ans.bind (Of_ans (h _ (List.getElem_mem hil)) ns hrp) ?_)
      cases ofB ns l[i].f0 with
      | true => exact Ans.pos rfl hnext
      | false => exact Ans.neg (by decide) (Ans.const _)
  have J2 : ∀ b : Bool, Ans (fun k => marquetryref17_Check.j2 k l b name ns) (if b = true then 3 else allB ns l) := by
    intro b
    cases b with
    | true => exact Ans.succ (g := fun _ => some 3) (fun k => by simp only [marquetryref17_Check.j2]; rw [if_pos trivial]) (Ans.const _)
    | false =>
      have := L1 _ 0 (Nat.zero_add _)
      rw [List.drop_zero] at this
      exact Ans.succ (fun k => by simp only [marquetryref17_Check.j2]; rw [if_neg (by decide)]; rfl) this
  have J1 : ∀ x : Int, Ans (fun k => marquetryref17_Check.j1 k l x name ns) (ansB ns l x) := by
    intro x
    unfold ansB
    by_cases h1 : l.length > 65536
    · rw [if_pos (.inl h1)]
      exact Ans.succ (fun k => by simp only [marquetryref17_Check.j1]; rw [if_pos (by omega)]) (J2 true)
    · have hb := J2 (decide (x > 65536))
      by_cases h2 : x > 65536
      · rw [if_pos (.inr h2)]
        rw [decide_eq_true h2] at hb
        exact Ans.succ (fun k => by simp only [marquetryref17_Check.j1]; rw [if_neg (by omega), decide_eq_true h2]) hb
      · rw [if_neg (by rintro (h | h); exact h1 h; exact h2 h)]
        rw [decide_eq_false h2] at hb
        exact Ans.succ (fun k => by simp only [marquetryref17_Check.j1]; rw [if_neg (by omega), decide_eq_false h2]) hb
  have L0 : ∀ (e i : Nat), i + e = l.length → ∀ x : Int, 0 ≤ x → x ≤ 65536 → Ans (fun k => marquetryref17_Check.l0 k l x (i : Int) name ns) (ansB ns l (tots_ (l.drop i) x)) := by
    intro e
    induction e with
    | zero =>
      intro i hi x h0 hx
      rw [List.drop_eq_nil_of_le (by omega)]
      exact Ans.succ (fun k => by simp only [marquetryref17_Check.l0]; rw [if_neg (by omega)]) (J1 x)
    | succ e ihe =>
      intro i hi x h0 hx
      have hil : i < l.length := by omega
      rw [List.drop_eq_getElem_cons hil, tots_]
      have hs := size_ans (h _ (List.getElem_mem hil)).sm
      have hm : (min (numF l[i].f0) 1048576 : Nat) ≤ 1048576 := Nat.min_le_right _ _
      generalize (min (numF l[i].f0) 1048576 : Nat) = m at hs hm
      have hw : wrap64 (x + (m : Int)) = x + (m : Int) := wrap_on (by omega) (by omega)
      refine Ans.succ (g := fun k => (marquetryref17_Size.f k l[i].f0).bind fun t => marquetryref17_Check.l0 k l (wrap64 (x + t)) ((i + 1 : Nat) : Int) name ns) (fun k => by simp only [marquetryref17_Check.l0]; rw [if_pos (by omega), if_pos (by omega), if_pos (by omega), rdR l i hil, wrap_succ i (by omega)]) (Ans.bind hs ?_)
      rw [hw]
      by_cases hbig : x + (m : Int) > 65536
      · rw [if_pos hbig]
        by_cases hil2 : i + 1 < l.length
        · exact Ans.succ (fun k => by simp only [marquetryref17_Check.l0]; rw [if_pos (by omega), if_neg (by omega)]) (J1 _)
        · exact Ans.succ (fun k => by simp only [marquetryref17_Check.l0]; rw [if_neg (by omega)]) (J1 _)
      · rw [if_neg hbig]
        exact ihe (i + 1) (by omega) _ (by omega) (by omega)
  have := L0 _ 0 (Nat.zero_add _) 0 (by omega) (by omega)
  rw [List.drop_zero] at this
  exact this
theorem own_check_ans (name : ByteArray) {ns : List S64} (hs : smallN ns = true) (l : List S42) (h : ∀ r ∈ l, Vl r.f0) : records_Check.f name ns l = some (if checkB name ns = true then ansB ns l (tots_ l 0) else 2) := by
  have hck : schema_Check.f name ns = some (if checkB name ns = true then 0 else 2) := by
    unfold schema_Check.f checkB
    rw [if_pos hs]
    congr 1
    by_cases h : nameB name = true ∧ ns.length ≠ 0 ∧ (fineN ns 1 256 []).1 = true
    · rw [if_pos h, if_pos (by rw [h.1, h.2.2, decide_eq_true h.2.1]; rfl)]
    · rw [if_neg h, if_neg]
      intro hh
      simp only [Bool.and_eq_true, decide_eq_true_eq] at hh
      exact h ⟨hh.1, hh.2.1, hh.2.2⟩
  unfold records_Check.f
  rw [hck]
  simp only [Option.bind_some]
  cases checkB name ns with
  | false => rfl
  | true =>
    rw [if_pos rfl, if_neg (by decide), if_pos rfl]
    unfold ansB
    split <;> rfl
end Go.Proofs.YtnbmgljcnbhinaaDoor.RckAid
end
