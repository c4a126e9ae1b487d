/- Texts of the claim, packed: SayRecordsSame, PureRecordsSame. -/
import Derived.Test.YtnbmgljcnbhinaaZRecordsSame3
import Derived.Test.YtnbmgljcnbhinaaZRecordsSame7
import Derived.Test.YtnbmgljcnbhinaaZRecordsSame10
section
-- Laid by this session's hprint.py: what is left to prove of a law. Not trusted: Lean checks it.
namespace Go.Proofs.Ytnbmgljcnbhinaa.recordsSame
open Go.RowKit Go.Proofs.YtnbmgljcnbhinaaW.PrintWords Go.Proofs.YtnbmgljcnbhinaaW.PrintLast Go.Proofs.YtnbmgljcnbhinaaW.PrintMore Go.Proofs.Ytnbmgljcnbhinaa.H Go.Proofs.YtnbmgljcnbhinaaO
set_option linter.unusedVariables false
def G43 (x : S43) : Prop := (fun x => (Lit.int .i64 x).wf = true) x.f0 ∧ (fun x => (Lit.int .i64 x).wf = true) x.f1 ∧ (fun s => s.size ≤ 140737488351232) x.f2
theorem open43 : ∀ n, Opens Try.prog k43 43 G43 n
 | 0 => Opens.zero _ _ _ _
 | n + 1 => by
  have h := OE.struct (n := n) Try.underlying43 (by kernel_rfl) (OFE.cons ⟨(Opens.int Try.underlying41) n⟩ rfl (by kernel_rfl) (OFE.cons ⟨(Opens.int Try.underlying2) n⟩ rfl (by kernel_rfl) (OFE.one ⟨(Opens.string Try.underlying9) n⟩ rfl (by kernel_rfl)))) (fun x : S43 => (x.f0, x.f1, x.f2)) (fun y => (⟨y.1, y.2.1, y.2.2⟩ : S43)) (fun _ => rfl)
  exact h.out
def GU45 : Nat → S45 → Prop
 | 0, _ => False
 | n + 1, x => G43 x.f0 ∧ (fun l => l.length ≤ maxLen ∧ l.length * 24 ≤ 140737488351232 ∧ ∀ y ∈ l, (fun l => l.length ≤ maxLen ∧ l.length * 56 ≤ 140737488351232 ∧ ∀ x ∈ l, GU45 n x) y.f0) x.f1
def G45 (x : S45) : Prop := ∃ n, GU45 n x
theorem open45 : ∀ n, Opens Try.prog k45 45 G45 n := by
 unfold k45
 have h := OE.fix (P := Try.prog) (t := 45) (G := GU45) (hs := sz45) (hE := Kd.upto_E sub45) (fun n ih => OE.struct (n := n) Try.underlying45 (by kernel_rfl) (OFE.cons ⟨(open43 n)⟩ rfl (by kernel_rfl) (OFE.one ⟨(Opens.slice_at (B := 24) Try.underlying27 (by kernel_rfl) (by kernel_rfl) n (OE.struct_at Try.underlying40 (by kernel_rfl) (fun x : S40 => x.f0) (fun y => (⟨y⟩ : S40)) (fun _ => rfl) n (OFE.one ⟨Opens.slice_at (B := 56) Try.underlying38 (by rw [sz45]; kernel_rfl) (by kernel_rfl) n ih⟩ rfl (by kernel_rfl))))⟩ rfl (by kernel_rfl))) (fun x : S45 => (x.f0, x.f1)) (fun y => (⟨y.1, y.2⟩ : S45)) (fun _ => rfl))
 exact fun n => (h n).out
def G40 (x : S40) : Prop := (fun l => l.length ≤ maxLen ∧ l.length * 56 ≤ 140737488351232 ∧ ∀ x ∈ l, G45 x) x.f0
theorem open40 : ∀ n, Opens Try.prog k40 40 G40 n
 | 0 => Opens.zero _ _ _ _
 | n + 1 => by
  have h := OE.struct (n := n) Try.underlying40 (by kernel_rfl) (OFE.one ⟨(Opens.slice_ (B := 56) Try.underlying38 (by kernel_rfl) (by kernel_rfl) open45) n⟩ rfl (by kernel_rfl)) (fun x : S40 => x.f0) (fun y => (⟨y⟩ : S40)) (fun _ => rfl)
  exact h.out
def G29 (x : S29) : Prop := (fun l => l.length ≤ maxLen ∧ l.length * 24 ≤ 140737488351232 ∧ ∀ x ∈ l, G40 x) x.f0
theorem open29 : ∀ n, Opens Try.prog k29 29 G29 n
 | 0 => Opens.zero _ _ _ _
 | n + 1 => by
  have h := OE.struct (n := n) Try.underlying29 (by kernel_rfl) (OFE.one ⟨(Opens.slice_ (B := 24) Try.underlying27 (by kernel_rfl) (by kernel_rfl) open40) n⟩ rfl (by kernel_rfl)) (fun x : S29 => x.f0) (fun y => (⟨y⟩ : S29)) (fun _ => rfl)
  exact h.out
def Pure : Prop := ∀ (y0 : List (S29)) (y1 : List (S29)), (fun l => l.length ≤ maxLen ∧ l.length * 24 ≤ 140737488351232 ∧ ∀ x ∈ l, G29 x) y0 → (fun l => l.length ≤ maxLen ∧ l.length * 24 ≤ 140737488351232 ∧ ∀ x ∈ l, G29 x) y1 → ∃ k, l17_RecordsSame.f k y0 y1 = some true
end Go.Proofs.Ytnbmgljcnbhinaa.recordsSame
end
section
/- Copies, sizes and sameness of records (RecordsSame), at every two lists of records. -/
namespace Go.Proofs.Ytnbmgljcnbhinaa.recordsSame
open Go.RowKit Go.Proofs.YtnbmgljcnbhinaaW.PrintWords Go.Proofs.YtnbmgljcnbhinaaW.PrintLast Go.Proofs.YtnbmgljcnbhinaaW.PrintMore Go.Proofs.Ytnbmgljcnbhinaa.H Go.Proofs.YtnbmgljcnbhinaaO Go.Proofs.Ytnbmgljcnbhinaa.RecAid
set_option linter.unusedVariables false
set_option linter.unusedSimpArgs false
theorem sm_of : ∀ (n : Nat) (v : S45), GU45 n v → Sm v.f1
 | 0, v, h => h.elim
 | n + 1, v, h => by
  obtain ⟨_, _, h1, h2⟩ := h
  exact Sm.mk _ (by omega) (fun x hx => by have := (h2 x hx).2.1; omega) (fun x hx u hu => sm_of n u ((h2 x hx).2.2 u hu))
theorem sm_record (y : S29) (h : G29 y) : Sm y.f0 := by
 obtain ⟨_, h1, h2⟩ := h
 exact Sm.mk _ (by omega) (fun x hx => by have := (h2 x hx).2.1; omega) (fun x hx u hu => by
  obtain ⟨n, hn⟩ := (h2 x hx).2.2 u hu
  exact sm_of n u hn)
theorem rdR (l : List S29) (i : Nat) (h : i < l.length) : rd_T29 l (i : Int) = l[i] := by
 unfold rd_T29
 simp [List.getD, h]
theorem heavy_ans (s : ByteArray) (l : List S29) (hl : l.length ≤ 10000000000000) (h : ∀ x ∈ l, Sm x.f0) : ∃ r, Ans (fun k => l17_heavy.f k s [] l) r := by
 have hc : Ans (fun k => r16_Count.f k []) 0 := by
  refine Ans.succ (g := fun k => r16_Count.l0 k [] 0 0) (fun k => by simp only [r16_Count.f]) ?_
  refine Ans.succ (g := fun k => some 0) (fun k => ?_) (Ans.const _)
  simp only [r16_Count.l0]
  rw [if_neg (by simp)]
 have L : ∀ (e i : Nat), i + e = l.length → ∀ (x : Int), ∃ r, Ans (fun k => l17_heavy.l0 k l x (i : Int)) r := by
  intro e
  induction e with
  | zero =>
   intro i hi x
   refine ⟨false, Ans.succ (g := fun k => some false) (fun k => ?_) (Ans.const _)⟩
   simp only [l17_heavy.l0]
   rw [if_neg (by omega)]
  | succ e ihe =>
   intro i hi x
   have hil : i < l.length := by omega
   have hs := size_ans (h _ (List.getElem_mem hil))
   obtain ⟨t, ht⟩ := texts_ans (h _ (List.getElem_mem hil))
   obtain ⟨r, hr⟩ := ihe (i + 1) (by omega) (wrap64 (x + ((min (numF l[i].f0) 1048576 : Nat) : Int)))
   have hM : ∃ r, Ans (fun k => (r17_Size.f k l[i].f0).bind fun t116 => (if (wrap64 (x + t116)) > 300 then (some true) else ((l17_texts.f k l[i].f0).bind fun t118 => (if t118 > 2000 then (some true) else (l17_heavy.l0 k l (wrap64 (x + t116)) ((i + 1 : Nat) : Int)))))) r := by
    by_cases h1 : (wrap64 (x + ((min (numF l[i].f0) 1048576 : Nat) : Int))) > 300
    ·exact ⟨true, Ans.bind hs (Ans.pos h1 (Ans.const _))⟩
    by_cases h2 : t > 2000
    ·exact ⟨true, Ans.bind hs (Ans.neg h1 (Ans.bind ht (Ans.pos h2 (Ans.const _))))⟩
    ·exact ⟨r, Ans.bind hs (Ans.neg h1 (Ans.bind ht (Ans.neg h2 hr)))⟩
   obtain ⟨r, hr⟩ := hM
   refine ⟨r, Ans.succ (fun k => ?_) hr⟩
   simp only [l17_heavy.l0]
   rw [if_pos (by omega), if_pos (by omega), rdR l i hil, wrap_succ i (by omega)]
 have J : ∀ b : Bool, ∃ r, Ans (fun k => l17_heavy.j0 k l b) r := by
  intro b
  cases b with
  | true =>
   refine ⟨true, Ans.succ (g := fun k => some true) (fun k => ?_) (Ans.const _)⟩
   simp only [l17_heavy.j0]
   rw [if_pos (by trivial)]
  | false =>
   obtain ⟨r, hr⟩ := L _ 0 (Nat.zero_add _) 0
   refine ⟨r, Ans.succ (fun k => ?_) hr⟩
   simp only [l17_heavy.j0]
   rw [if_neg (by simp)]
   rfl
 obtain ⟨r, hr⟩ := J (decide ((l.length : Int) > 40))
 refine ⟨r, ?_⟩
 unfold l17_heavy.f
 exact Ans.bind hc (Ans.neg (by decide) hr)
theorem all_ans (l m : List S29) (hl : l.length ≤ 10000000000000) (h : ∀ x ∈ l, Sm x.f0) : Ans (fun k => r17_SameAll.f k l m) (eqL (fun x y => sameL x.f0 y.f0) l m) := by
 unfold r17_SameAll.f
 by_cases hlen : l.length = m.length
 case neg =>
  rw [len_eqL _ _ _ hlen]
  exact Ans.neg (by omega) (Ans.const _)
 refine Ans.pos (by omega) ?_
 have L : ∀ (e i : Nat), i + e = l.length → Ans (fun k => r17_SameAll.l0 k l m (i : Int)) (eqL (fun x y => sameL x.f0 y.f0) (l.drop i) (m.drop i)) := by
  intro e
  induction e with
  | zero =>
   intro i hi
   refine Ans.succ (g := fun k => some true) (fun k => ?_) ?_
   ·simp only [r17_SameAll.l0]
    rw [if_neg (by omega)]
   ·rw [List.drop_eq_nil_of_le (by omega), List.drop_eq_nil_of_le (by omega), eqL]
    exact Ans.const _
  | succ e ihe =>
   intro i hi
   have hil : i < l.length := by omega
   have him : i < m.length := by omega
   rw [List.drop_eq_getElem_cons hil, List.drop_eq_getElem_cons him, eqL]
   have hs := same_ans (h _ (List.getElem_mem hil)) m[i].f0
   refine Ans.succ (g := fun k => (r17_Same.f k l[i].f0 m[i].f0).bind fun t150 => (if t150 = true then (r17_SameAll.l0 k l m ((i + 1 : Nat) : Int)) else (some false))) (fun k => ?_) (Ans.bind hs ?_)
   ·simp only [r17_SameAll.l0]
    rw [if_pos (by omega), if_pos (by omega), if_pos (by omega), rdR l i hil, rdR m i him, wrap_succ i (by omega)]
   ·cases sameL l[i].f0 m[i].f0 with
    | false =>
     rw [Bool.false_and]
     exact Ans.neg (by decide) (Ans.const _)
    | true =>
     rw [Bool.true_and]
     exact Ans.pos rfl (ihe (i + 1) (by omega))
 exact L _ 0 (Nat.zero_add _)
theorem law_ans (l m : List S29) (hl : l.length ≤ 10000000000000) (h : ∀ x ∈ l, Sm x.f0) : ∀ (e i : Nat), i + e = l.length → Ans (fun k => l17_RecordsSame.l0 k l m (i : Int)) true := by
 intro e
 induction e with
 | zero =>
  intro i hi
  refine Ans.succ (g := fun k => (records_SameAll.f l m).bind fun t153 => ((r17_SameAll.f k l m).bind fun t154 => (some (t153 == t154)))) (fun k => ?_) ?_
  ·simp only [l17_RecordsSame.l0]
   rw [if_neg (by omega)]
  ·unfold records_SameAll.f
   refine Ans.bind (Ans.const _) (Ans.bind (all_ans l m hl h) ?_)
   rw [beq_self_eq_true]
   exact Ans.const _
 | succ e ihe =>
  intro i hi
  have hil : i < l.length := by omega
  have hx := h _ (List.getElem_mem hil)
  have hnext := ihe (i + 1) (by omega)
  have hj : Ans (fun k => l17_RecordsSame.j2 k l m (i : Int) false) true := by
   by_cases him : i < m.length
   ·refine Ans.succ (g := fun k => (records_Same.f l[i].f0 m[i].f0).bind fun t170 => ((r17_Same.f k l[i].f0 m[i].f0).bind fun t173 => (if (t170 != t173) = true then (some false) else (l17_RecordsSame.l0 k l m ((i + 1 : Nat) : Int))))) (fun k => ?_) ?_
    ·simp only [l17_RecordsSame.j2]
     rw [if_neg (by simp), if_pos (by omega), if_pos (by omega), if_pos (by omega), rdR l i hil, rdR m i him, wrap_succ i (by omega)]
    ·unfold records_Same.f records_same.f
     refine Ans.bind (Ans.const _) (Ans.bind (same_ans hx m[i].f0) ?_)
     rw [bne_self_eq_false]
     exact Ans.neg (by decide) hnext
   ·refine Ans.succ (fun k => ?_) hnext
    simp only [l17_RecordsSame.j2]
    rw [if_neg (by simp), if_neg (by omega), wrap_succ i (by omega)]
  refine Ans.succ (g := fun k => (records_Copy.f k l[i].f0).bind fun t156 => ((r17_Same.f k t156 l[i].f0).bind fun t161 => (if t161 = true then ((records_Size.f l[i].f0).bind fun t163 => ((r17_Size.f k l[i].f0).bind fun t165 => (if t163 = t165 then ((records_Same.f l[i].f0 t156).bind fun t167 => (l17_RecordsSame.j2 k l m (i : Int) (!t167))) else (l17_RecordsSame.j2 k l m (i : Int) true)))) else (l17_RecordsSame.j2 k l m (i : Int) true)))) (fun k => ?_) ?_
  ·simp only [l17_RecordsSame.l0]
   rw [if_pos (by omega), if_pos (by omega), rdR l i hil]
  ·have hcp : Ans (fun k => records_Copy.f k l[i].f0) l[i].f0 := by
    unfold records_Copy.f
    exact Ans.bind (copy_ans hx) (Ans.const _)
   refine Ans.bind hcp (Ans.bind (same_ans hx l[i].f0) ?_)
   refine Ans.pos (same_refl hx) ?_
   unfold records_Size.f
   refine Ans.bind (Ans.const _) (Ans.bind (size_ans hx) (Ans.pos rfl ?_))
   unfold records_Same.f records_same.f
   refine Ans.bind (Ans.const _) ?_
   rw [same_refl hx]
   exact hj
theorem pure_ : Pure := by
 intro y0 y1 h0 h1
 obtain ⟨_, h01, h02⟩ := h0
 obtain ⟨_, h11, h12⟩ := h1
 have k0 : ∀ x ∈ y0, Sm x.f0 := fun x hx => sm_record x (h02 x hx)
 have k1 : ∀ x ∈ y1, Sm x.f0 := fun x hx => sm_record x (h12 x hx)
 obtain ⟨a, ha⟩ := heavy_ans (⟨#[]⟩ : ByteArray) y0 (by omega) k0
 obtain ⟨b, hb⟩ := heavy_ans (⟨#[]⟩ : ByteArray) y1 (by omega) k1
 suffices h : Ans (fun k => l17_RecordsSame.f k y0 y1) true from h.get
 have J : ∀ b : Bool, Ans (fun k => l17_RecordsSame.j0 k y0 y1 b) true := by
  intro b
  cases b with
  | true =>
   refine Ans.succ (g := fun k => some true) (fun k => ?_) (Ans.const _)
   simp only [l17_RecordsSame.j0]
   rw [if_pos (by trivial)]
  | false =>
   refine Ans.succ (g := fun k => l17_RecordsSame.l0 k y0 y1 0) (fun k => ?_) (law_ans y0 y1 (by omega) k0 _ 0 (Nat.zero_add _))
   simp only [l17_RecordsSame.j0]
   rw [if_neg (by simp)]
 unfold l17_RecordsSame.f
 refine Ans.bind ha ?_
 cases a with
 | true => exact Ans.pos rfl (J true)
 | false => exact Ans.neg (by decide) (Ans.bind hb (J b))
end Go.Proofs.Ytnbmgljcnbhinaa.recordsSame
end
