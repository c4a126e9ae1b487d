/- Texts of the claim, packed: H44. -/
import Derived.Deep.RegionHeld3
import Derived.Defers
import Derived.Lib.Hide
import Derived.Recover
import Derived.Test.YtjdjlccdidfgoaaDoorZSchemaFlat6
import Derived.Test.YtjdjlccdidfgoaaDoorZSchemaFlat9
import Derived.Test.YtjdjlccdidfgoaaDoorZSchemaFlat12
import Derived.Test.YtjdjlccdidfgoaaDoorZSchemaFlat13
section
-- Laid by this session's hprint.py, out of the kit's print.py and texts of the session. Not trusted: Lean checks it.
namespace Go.Proofs.YtjdjlccdidfgoaaDoor.H
open Go.RowKit Go.Proofs.YtjdjlccdidfgoaaDoorW.PrintWords Go.Proofs.YtjdjlccdidfgoaaDoorW.PrintLast Go.Proofs.YtjdjlccdidfgoaaDoorW.PrintMore
attribute [local go_sem] max2_int min2_int max_two min_two max_three min_three max_four min_four   -- for this text's walks alone
set_option linter.unusedVariables false
set_option linter.unusedSimpArgs false

-- OVPART Derived.Lib.Hide Derived.Defers Derived.Recover Derived.Deep.RegionHeld3
/-! ### schema_Tree: function 14 -/
set_option maxRecDepth 100000 in
set_option maxHeartbeats 4000000 in
/-- The deferred function's end: the zero schema and the refusal; or nothing. -/
theorem tree1_stop (bs be : Nat) (v0 v1 : Value) (e0 : Value) (w : World) (hs : w.heap[bs]? = some (.cells #[v0, v1] 24 (0, 0))) (he : w.heap[be]? = some (.cells #[e0] 26 (0, 0))) (hne : bs ≠ be) (older : List PanicEntry) :
    CallsD Tryd.prog 34 #[.pointer (some ⟨bs, 0, none⟩), .pointer (some ⟨be, 0, none⟩)] (.panicking (stopP :: older)) w fun e u' w' =>
      e = .returned (.tuple #[]) ∧ u' = .panicking ({ v := .iface 72 (.agg #[]), recovered := true } :: older) ∧ w'.heap[bs]? = some (.cells #[.string ⟨#[]⟩, .slice none 0 0] 24 (0, 0)) ∧ w'.heap[be]? = some (.cells #[.int .i64 260] 26 (0, 0)) ∧ (∀ n, n ≤ bs → n ≤ be → n ≤ w.heap.size → Below n w w') := by
  refine callsD_of_wpS Tryd.func34 rfl fun c₀ cs hu => ?_
  apply wpS_seq
  apply wpS_region
  simp [wpOpsS, go_sem, recoverD, hu, Tryd.ntmps34, Exit.thenS]
  refine wpS_of_wp ?_
  have hta : ∀ w : World, (Instr.typeAssert (.iface 72 (.agg #[])) 20 72 true).run Tryd.prog w = .ok (.tuple #[.agg #[], .bool true]) w := fun w => by kernel_rfl
  have hs1 := fun o => blk_alloc hs o
  have he1 := fun o => blk_alloc he o
  have q0 := fun o => blk_cell (hs1 o) 0
  have q1 := fun o => blk_cell (hs1 o) 1
  have q2 := fun o => blk_cell (he1 o) 0
  have z0 := fun o => blk_frozen (hs1 o) 0
  have z1 := fun o => blk_frozen (hs1 o) 1
  have z2 := fun o => blk_frozen (he1 o) 0
  go_wp2
  refine ⟨rfl, _, rfl, .tuple #[], results_none rfl _ _ _, rfl, rfl, ?_, ?_, fun n h1 h2 h3 => ?_⟩
  · exact blk_far (blk_put (blk_put (hs1 _) 0 _ rfl) 1 _ rfl) (p := ⟨be, 0, none⟩) hne _
  · exact blk_put (blk_far (blk_far (he1 _) (p := ⟨bs, 0, none⟩) (Ne.symm hne) _) (p := ⟨bs, 1, none⟩) (Ne.symm hne) _) 0 _ rfl
  · exact ((((Below.refl n w).alloc h3 _).setCell (p := ⟨bs, 0, none⟩) h1 _).setCell (p := ⟨bs, 1, none⟩) h1 _).setCell (p := ⟨be, 0, none⟩) h2 _
theorem tree1_idle (bs be : Nat) (w : World) :
    CallsD Tryd.prog 34 #[.pointer (some ⟨bs, 0, none⟩), .pointer (some ⟨be, 0, none⟩)] .returning w fun e u' w' => e = .returned (.tuple #[]) ∧ u' = .returning ∧ w' = w := by
  refine callsD_of_wpS Tryd.func34 rfl fun c₀ cs hu => ?_
  apply wpS_seq
  apply wpS_region
  simp [wpOpsS, go_sem, recoverD, hu, Tryd.ntmps34, Exit.thenS]
  refine wpS_of_wp ?_
  go_wp2
  cases c₀
  simp_all [bodyPostS, results, Tryd.results34]
theorem tree_fail (tmps : Array Value) (w W : World) (ht2 : tmps[2]?.getD undef = .pointer (some ⟨w.heap.size, 0, none⟩)) (ht3 : tmps[3]?.getD undef = .pointer (some ⟨w.heap.size + 1, 0, none⟩)) (v0 v1 e0 : Value) (hs : W.heap[w.heap.size]? = some (.cells #[v0, v1] 24 (0, 0))) (he : W.heap[w.heap.size + 1]? = some (.cells #[e0] 26 (0, 0))) (hB : Below w.heap.size w W) :
    Leaves Tryd.prog Tryd.f14 tmps (fun e w' => ∃ v1_ : Value, e = .returned (.tuple #[.agg #[.string ⟨#[]⟩, v1_], .int .i64 260]) ∧ Kd.R k62 62 w' w.heap.size (fun _ => True) v1_ [] ∧ Below w.heap.size w w')
      [{ target := .fn (.func 34) #[.pointer (some ⟨w.heap.size, 0, none⟩), .pointer (some ⟨w.heap.size + 1, 0, none⟩)], args := #[] }] (.panicking [stopP]) W := by
  refine leaves_cons (f := 34) (args := #[.pointer (some ⟨w.heap.size, 0, none⟩), .pointer (some ⟨w.heap.size + 1, 0, none⟩)]) (by simp) (by simp [go_sem]) ?_
  refine (tree1_stop w.heap.size (w.heap.size + 1) v0 v1 e0 W hs he (by omega) []).mono ?_
  rintro e u' w2 ⟨rfl, rfl, h1, h2, h3⟩
  have q0 := blk_cell h1 0
  have q1 := blk_cell h1 1
  have q2 := blk_cell h2 0
  have hB2 := h3 w.heap.size (Nat.le_refl _) (Nat.le_succ _) hB.size
  refine ⟨.tuple #[.agg #[.string ⟨#[]⟩, .slice none 0 0], .int .i64 260], ?_, .slice none 0 0, rfl, Kd.R_nil _ _ _ _ _, hB.trans hB2⟩
  simp only [results, Tryd.results14]
  go_simp
/-- A region in a function that defers: what a panic in it leaves is said of the world, and of the frame's two named results. -/
def stopQ (K : Act → World → Prop) (G : World → Prop) (D : List Deferred) (p2 p3 : Value) : Exit → Act → World → Prop
  | .normal, a, w => K a w
  | .panic ch, a, w => ch = [stopP] ∧ a.defers = D ∧ a.tmps[2]? = some p2 ∧ a.tmps[3]? = some p3 ∧ G w
  | _, _, _ => False
theorem stopQ_put {K : Act → World → Prop} {G : World → Prop} {D : List Deferred} {p2 p3 v : Value} {N : Tmp} (h2 : N ≠ 2) (h3 : N ≠ 3) : ∀ (c : List PanicEntry) (a : Act) (w : World), stopQ K G D p2 p3 (.panic c) (a.put (some N) v) w → stopQ K G D p2 p3 (.panic c) a w := fun c a w h => by
  obtain ⟨q1, q2, q3, q4, q5⟩ := h
  refine ⟨q1, q2, ?_, ?_, q5⟩
  · rw [← q3]
    simp [Act.put, Array.getElem?_setIfInBounds, h2]
  · rw [← q4]
    simp [Act.put, Array.getElem?_setIfInBounds, h3]
theorem wp_stop {P : Program} {c : Code} {K : Act → World → Prop} {Q : Exit → Act → World → Prop} {a : Act} {w : World} (G : World → Prop) (D : List Deferred) (p2 p3 : Value) (hG : ∀ (a : Act) (W : World), a.defers = D → a.tmps[2]? = some p2 → a.tmps[3]? = some p3 → G W → Q (.panic [stopP]) a W)
    (h : c.wp P (stopQ K G D p2 p3) a w) : c.wp P (Exit.then K Q) a w := wp_mono h fun e a w he => by
  cases e with
  | normal => exact he
  | panic ch =>
    obtain ⟨rfl, q2, q3, q4, q5⟩ := he
    exact hG a w q2 q3 q4 q5
  | _ => exact he.elim
/-- A refusal, and where the two named results lie. -/
def TreeG (r : Option (ByteArray × List S62 × Int)) (w W' : World) : Prop := some ((⟨#[]⟩ : ByteArray), ([] : List S62), (260 : Int)) = r ∧ ∃ v0 v1 e0, W'.heap[w.heap.size]? = some (.cells #[v0, v1] 24 (0, 0)) ∧ W'.heap[w.heap.size + 1]? = some (.cells #[e0] 26 (0, 0)) ∧ Below w.heap.size w W'
theorem eqE_ (d : Nat) (w : World) (x0 y0 : ByteArray) (x1 y1 x2 y2 x3 y3 x4 y4 : Int) :
    (Op.equalIn (d + 2) 43 (.agg #[.string x0, .int .i64 x1, .int .i64 x2, .int .i64 x3, .int .i64 x4]) (.agg #[.string y0, .int .i64 y1, .int .i64 y2, .int .i64 y3, .int .i64 y4])).run Tryd.prog w = .ok (x0.toList == y0.toList && (x1 == y1 && (x2 == y2 && (x3 == y3 && (x4 == y4))))) w := by
  refine eqA_of Tryd.underlying43 (by kernel_rfl) ?_
  refine eqf_cons (by rfl) (by go_simp; rfl) (by go_simp; rfl) (by go_simp) ?_
  refine eqf_cons (by rfl) (by go_simp; rfl) (by go_simp; rfl) (by go_simp) ?_
  refine eqf_cons (by rfl) (by go_simp; rfl) (by go_simp; rfl) (by go_simp) ?_
  refine eqf_cons (by rfl) (by go_simp; rfl) (by go_simp; rfl) (by go_simp) ?_
  exact eqf_last (by rfl) (by go_simp; rfl) (by go_simp; rfl) (by go_simp)
attribute [local go_sem high] eqE_
def schema_Tree.f (l0 : List S43) : Option (ByteArray × List S62 × Int) :=
  if l0.length ≤ 257 then (match l0 with
    | [] => some (⟨#[]⟩, [], 260)
    | x :: l => if x.f1 = 0 ∧ x.f3 = 0 ∧ x.f4 = 0 then (match nodesP 33 x.f2 l with
      | none => some (⟨#[]⟩, [], 260)
      | some (ks, rest) => if rest.length = 0 then (schema_Check.f x.f0 ks).bind fun e => if e = 0 then some (x.f0, ks, 0) else some (⟨#[]⟩, [], 260) else some (⟨#[]⟩, [], 260)) else some (⟨#[]⟩, [], 260)) else some (⟨#[]⟩, [], 260)
set_option maxRecDepth 100000 in
set_option maxHeartbeats 8000000 in
theorem schema_Tree.calls (A0 : Option Addr) (c0 : Nat) (l0 : List (S43)) (r1 : ByteArray) (r2 : List (S62)) (r3 : Int) (w : World) (hr0 : Kd.C k43 w A0 l0.length l0) (hc0 : l0.length ≤ c0) (h : schema_Tree.f l0 = some (r1, r2, r3)) (hT_ : Tabs_ w := by repeat (first | exact hT_ | exact Tabs_.below hT_ HB.out | exact Tabs_.below hT_ HB | with_reducible refine Tabs_.alloc ?_ _ | with_reducible refine Tabs_.drewN ?_ _ | with_reducible refine Tabs_.drew ?_)) :
    Calls Tryd.prog 14 #[.slice A0 l0.length c0] w fun e w' => ∃ v1_ : Value, e = .returned (.tuple #[.agg #[.string r1, v1_], .int .i64 r3]) ∧ Kd.R k62 62 w' w.heap.size (fun _ => True) v1_ r2 ∧ Below w.heap.size w w' := by
  have hmf : ∀ (fn : Fn) (first cap : Array Value) (w : World), (Instr.makeFunc fn first cap).run Tryd.prog w = .ok (.func fn first cap) w := fun _ _ _ _ => rfl
  have hB1 := below_alloc (Below.refl w.heap.size w) (.cells #[.string ⟨#[]⟩, .slice none 0 0] 24)
  have hB2 := below_alloc hB1 (.cells #[.int .i64 0] 26)
  have hks := blk_alloc (blk_new w (.cells #[.string ⟨#[]⟩, .slice none 0 0] 24)) (.cells #[.int .i64 0] 26)
  have hke := blk_new (w.alloc (.cells #[.string ⟨#[]⟩, .slice none 0 0] 24)) (.cells #[.int .i64 0] 26)
  rw [World.size_alloc] at hke
  have hz2 : ((w.alloc (.cells #[.string ⟨#[]⟩, .slice none 0 0] 24)).alloc (.cells #[.int .i64 0] 26)).heap.size = w.heap.size + 2 := by rw [World.size_alloc, World.size_alloc]
  have hmax := Kd.C_max hr0
  by_cases hlen : l0.length ≤ 257
  case neg =>
    unfold schema_Tree.f at h
    rw [if_neg hlen] at h
    have d0 : decide (l0.length ≤ 257) = false := decide_eq_false hlen
    have di : decide ((l0.length : Int) ≤ 257) = false := decide_eq_false (by omega)
    go_enter_defers Tryd.func14, Tryd.ntmps14
    go_wp2_with fail
    refine (must_no _).mono ?_
    rintro e w' ⟨rfl, rfl⟩
    cases h
    exact tree_fail _ w _ rfl rfl _ _ _ hks hke hB2
  case pos =>
    unfold schema_Tree.f at h
    rw [if_pos hlen] at h
    have d0 : decide (l0.length ≤ 257) = true := decide_eq_true hlen
    have di : decide ((l0.length : Int) ≤ 257) = true := decide_eq_true (by omega)
    have hks3 := blk_alloc hks (.cells #[.slice A0 l0.length c0] 76)
    have hke3 := blk_alloc hke (.cells #[.slice A0 l0.length c0] 76)
    have hr3 := blk_new ((w.alloc (.cells #[.string ⟨#[]⟩, .slice none 0 0] 24)).alloc (.cells #[.int .i64 0] 26)) (.cells #[.slice A0 l0.length c0] 76)
    have hB3 := below_alloc hB2 (.cells #[.slice A0 l0.length c0] 76)
    rw [hz2] at hr3
    clear hmax hlen
    cases l0 with
    | nil =>
      go_enter_defers Tryd.func14, Tryd.ntmps14
      go_wp2_with fail
      refine (must_ok _).mono ?_
      rintro e w' ⟨rfl, rfl⟩
      go_wp2_with fail
      refine (next_none (w.heap.size + 2) A0 c0 _ hr3).mono ?_
      rintro e w' ⟨rfl, hBn⟩
      cases h
      exact tree_fail _ w _ rfl rfl _ _ _ (blk_below hks3 hBn) (blk_below hke3 hBn) (below_step hB3 hBn)
    | cons x l =>
      have HF := Lib.hid (show (if x.f1 = 0 ∧ x.f3 = 0 ∧ x.f4 = 0 then (match nodesP 33 x.f2 l with
      | none => some ((⟨#[]⟩ : ByteArray), ([] : List S62), (260 : Int))
      | some (ks, rest) => if rest.length = 0 then (schema_Check.f x.f0 ks).bind fun e => if e = 0 then some (x.f0, ks, 0) else some (⟨#[]⟩, [], 260) else some (⟨#[]⟩, [], 260)) else some (⟨#[]⟩, [], 260)) = some (r1, r2, r3) from h)
      have HCX := Lib.hid (cutA_reads hr0 hc0)
      have HCC := Lib.hid (show l.length ≤ c0 - 1 by simp only [List.length_cons] at hc0; omega)
      have HNS := Lib.hid (next_some (w.heap.size + 2) A0 c0 x l _ hr3 (Kd.C_below hr0 hB3) hc0)
      clear h hr0
      generalize (x :: l).length = n at *
      go_enter_defers Tryd.func14, Tryd.ntmps14
      go_wp2_with fail
      refine (must_ok _).mono ?_
      rintro e w' ⟨rfl, rfl⟩
      go_wp2_with fail
      refine HNS.out.mono ?_
      rintro e W4 ⟨rfl, hg4, hr4⟩
      have hnt := blk_new W4 (.cells #[.string x.f0, .int .i64 x.f1, .int .i64 x.f2, .int .i64 x.f3, .int .i64 x.f4] 43)
      have hq0 := blk_cell hnt 0
      have hq1 := blk_cell hnt 1
      have hq2 := blk_cell hnt 2
      have hq3 := blk_cell hnt 3
      have hq4 := blk_cell hnt 4
      have HKT := Lib.hid hnt
      have HKS := Lib.hid (blk_alloc (gb_blk hg4 hks3 (by omega)) (.cells #[.string x.f0, .int .i64 x.f1, .int .i64 x.f2, .int .i64 x.f3, .int .i64 x.f4] 43))
      have HKE := Lib.hid (blk_alloc (gb_blk hg4 hke3 (by omega)) (.cells #[.string x.f0, .int .i64 x.f1, .int .i64 x.f2, .int .i64 x.f3, .int .i64 x.f4] 43))
      have HR5 := Lib.hid (blk_alloc hr4 (.cells #[.string x.f0, .int .i64 x.f1, .int .i64 x.f2, .int .i64 x.f3, .int .i64 x.f4] 43))
      have HRL := Lib.hid (blk_lt hr4)
      have HB5 := Lib.hid (((hB3.trans (gb_low hg4 hB3.size (show w.heap.size ≤ w.heap.size + 2 by omega))).trans ((below_alloc (Below.refl _ _) (.cells #[.string x.f0, .int .i64 x.f1, .int .i64 x.f2, .int .i64 x.f3, .int .i64 x.f4] 43)).mono (show w.heap.size ≤ W4.heap.size by have := blk_lt hr4; omega))))
      clear HNS hg4 hr4 hnt hks hke hks3 hke3 hr3 hB1 hB2 hB3 hz2
      by_cases f1 : x.f1 = 0
      · have e1 : (x.f1 == 0) = true := beq_iff_eq.2 f1
        have HF1 := Lib.hid f1
        by_cases f3 : x.f3 = 0
        · have e3 : (x.f3 == 0) = true := beq_iff_eq.2 f3
          have HF3 := Lib.hid f3
          by_cases f4 : x.f4 = 0
          · have e4 : (x.f4 == 0) = true := beq_iff_eq.2 f4
            have HF4 := Lib.hid f4
            clear f1 f3 f4
            have HFX := Lib.hid (show (match nodesP 33 x.f2 l with
                  | none => some ((⟨#[]⟩ : ByteArray), ([] : List S62), (260 : Int))
                  | some (ks, rest) => if rest.length = 0 then (schema_Check.f x.f0 ks).bind fun e => if e = 0 then some (x.f0, ks, 0) else some (⟨#[]⟩, [], 260) else some (⟨#[]⟩, [], 260)) = some (r1, r2, r3) by
              have h := HF.out
              rw [if_pos ⟨HF1.out, HF3.out, HF4.out⟩] at h
              exact h)
            go_wp2_with fail
            refine (must_ok _).mono ?_
            rintro e w' ⟨rfl, rfl⟩
            go_wp2_with fail
            refine wp_stop (TreeG (some (r1, r2, r3)) w) [{ target := .fn (.func 34) #[.pointer (some ⟨w.heap.size, 0, none⟩), .pointer (some ⟨w.heap.size + 1, 0, none⟩)], args := #[] }] (.pointer (some ⟨w.heap.size, 0, none⟩)) (.pointer (some ⟨w.heap.size + 1, 0, none⟩)) ?hstop ?_
            case hstop =>
              rintro a' W' hD ht2 ht3 ⟨hrr, v0, v1, e0, hs', he', hb'⟩
              cases hrr
              show Leaves Tryd.prog Tryd.f14 a'.tmps _ a'.defers (.panicking [stopP]) W'
              rw [hD]
              exact tree_fail a'.tmps w W' (by rw [ht2]; rfl) (by rw [ht3]; rfl) v0 v1 e0 hs' he' hb'
            refine wp_region_held_drew (S := fun W' => (W'.cell? ⟨W4.heap.size, 0, none⟩ = some (.string x.f0) ∧ W'.cell? ⟨W4.heap.size, 2, none⟩ = some (.int .i64 x.f2))) rfl ⟨blk_cell (blk_below HKT.out (Below.refl _ _).drew) 0, blk_cell (blk_below HKT.out (Below.refl _ _).drew) 2⟩ (fun hHeld => ?_)
            have hB6 : Below (W4.alloc (.cells #[.string x.f0, .int .i64 x.f1, .int .i64 x.f2, .int .i64 x.f3, .int .i64 x.f4] 43)).heap.size (W4.alloc (.cells #[.string x.f0, .int .i64 x.f1, .int .i64 x.f2, .int .i64 x.f3, .int .i64 x.f4] 43)) (W4.alloc (.cells #[.string x.f0, .int .i64 x.f1, .int .i64 x.f2, .int .i64 x.f3, .int .i64 x.f4] 43)).drew := (Below.refl _ _).drew
            have hr6 := blk_below HR5.out hB6
            have hks6 := blk_below HKS.out hB6
            have hke6 := blk_below HKE.out hB6
            have hkt6 := blk_below HKT.out hB6
            have hb6 : Below w.heap.size w (W4.alloc (.cells #[.string x.f0, .int .i64 x.f1, .int .i64 x.f2, .int .i64 x.f3, .int .i64 x.f4] 43)).drew := HB5.out.drew
            generalize (W4.alloc (.cells #[.string x.f0, .int .i64 x.f1, .int .i64 x.f2, .int .i64 x.f3, .int .i64 x.f4] 43)).drew = W6 at *
            clear hq0 hq1 hq2 hq3 hq4 hB6
            refine tkL_ 0 (some 24) rfl rfl (v := ?a0) ?b0 ?c0 (hQ := stopQ_put (by decide) (by decide))
            case b0 => (intro W' hSw; (try dsimp only at hSw); go_simp; first | done | with_reducible rfl)
            simp only [Act.put, List.setIfInBounds_toArray, List.set_cons_zero, List.set_cons_succ]
            refine tkL_ 1 (some 25) rfl rfl (v := ?a1) ?b1 ?c1 (hQ := stopQ_put (by decide) (by decide))
            case b1 => (intro W' hSw; (try dsimp only at hSw); go_simp; first | done | with_reducible rfl)
            simp only [Act.put, List.setIfInBounds_toArray, List.set_cons_zero, List.set_cons_succ]
            refine tkL_ 2 (some 26) rfl rfl (v := ?a2) ?b2 ?c2 (hQ := stopQ_put (by decide) (by decide))
            case b2 => (intro W' hSw; (try dsimp only at hSw); go_simp; first | done | with_reducible rfl)
            simp only [Act.put, List.setIfInBounds_toArray, List.set_cons_zero, List.set_cons_succ]
            refine tkL_ 3 (some 27) rfl rfl (v := ?a3) ?b3 ?c3 (hQ := stopQ_put (by decide) (by decide))
            case b3 => (intro W' hSw; (try dsimp only at hSw); go_simp; first | done | with_reducible rfl)
            simp only [Act.put, List.setIfInBounds_toArray, List.set_cons_zero, List.set_cons_succ]
            refine tkL_ 4 (some 28) rfl rfl (v := ?a4) ?b4 ?c4 (hQ := stopQ_put (by decide) (by decide))
            case b4 => (intro W' hSw; (try dsimp only at hSw); go_simp; first | done | with_reducible rfl)
            simp only [Act.put, List.setIfInBounds_toArray, List.set_cons_zero, List.set_cons_succ]
            refine wpAnyH_ready (rs := [5]) (by kernel_rfl) (by simp) (AllReadyH.cons (at_dropL rfl) (fun KC hKC => ?_) AllReadyH.nil)
            go_simp
            have hN := nodes_all 33 x.f2 l w W6 (w.heap.size + 2) (cutA A0 c0) (c0 - 1) (Nat.le_refl _) hb6 (by omega) hr6 HCC.out HCX.out
            rw [show (34 - ((33 : Nat) : Int)) = 1 from rfl] at hN
            refine hN.mono ?_
            rintro e W7 hN7
            clear hN
            cases hnp : nodesP 33 x.f2 l with
            | none =>
              obtain ⟨rfl, hg7⟩ := hN7.1 hnp
              have hF := HFX.out
              rw [hnp] at hF
              exact ⟨rfl, rfl, rfl, rfl, hF, _, _, _, gb_blk hg7 hks6 (by omega), gb_blk hg7 hke6 (by omega), hb6.trans (gb_low hg7 hb6.size (by omega))⟩
            | some q =>
              obtain ⟨v, A7, c7, rfl, hv, hg7, hr7, hc7, -⟩ := hN7.2 q.1 q.2 hnp
              have hF := HFX.out
              rw [hnp] at hF
              replace hF : (if q.2.length = 0 then (schema_Check.f x.f0 q.1).bind fun e => if e = 0 then some (x.f0, q.1, 0) else some (⟨#[]⟩, [], 260) else some (⟨#[]⟩, [], 260)) = some (r1, r2, r3) := hF
              have HFQ := Lib.hid hF
              obtain ⟨A8, c8, rfl⟩ := Kd.R_slice hv
              have hks7 := gb_blk hg7 hks6 (by omega)
              have hke7 := gb_blk hg7 hke6 (by omega)
              have hkt7 := gb_blk hg7 hkt6 (by have := HRL.out; omega)
              have hb7 : Below w.heap.size w W7 := hb6.trans (gb_low hg7 hb6.size (by omega))
              have hw67 := hg7.size
              have hw46 : w.heap.size + 2 < W6.heap.size := blk_lt hr6
              clear hF hN7 hnp hks6 hke6 hkt6 hr6
              refine hKC.out _ _ ⟨blk_cell hkt7 0, blk_cell hkt7 2⟩ (fun hHeld => ?_)
              clear hKC KC
              try simp only [Act.put, List.setIfInBounds_toArray, List.set_cons_zero, List.set_cons_succ]
              refine tkL_ 6 (some 30) rfl rfl (v := ?aQ6) ?bQ6 ?cQ6 (hQ := stopQ_put (by decide) (by decide))
              case bQ6 => (intro W' hSw; (try dsimp only at hSw); go_simp; first | done | with_reducible rfl)
              simp only [Act.put, List.setIfInBounds_toArray, List.set_cons_zero, List.set_cons_succ]
              have hx70 := blk_cell hks7 0
              have hx71 := blk_cell hks7 1
              have hz70 := blk_frozen hks7 0
              have hz71 := blk_frozen hks7 1
              have hks8 := blk_put (blk_put hks7 0 (.string x.f0) rfl) 1 (.slice A8 q.1.length c8) rfl
              have hke8 := blk_far (blk_far hke7 (p := ⟨w.heap.size, 0, none⟩) (show w.heap.size + 1 ≠ w.heap.size by omega) (.string x.f0)) (p := ⟨w.heap.size, 1, none⟩) (show w.heap.size + 1 ≠ w.heap.size by omega) (.slice A8 q.1.length c8)
              have hkt8 := blk_far (blk_far hkt7 (p := ⟨w.heap.size, 0, none⟩) (show W4.heap.size ≠ w.heap.size by have := HRL.out; omega) (.string x.f0)) (p := ⟨w.heap.size, 1, none⟩) (show W4.heap.size ≠ w.heap.size by have := HRL.out; omega) (.slice A8 q.1.length c8)
              have hr8 := blk_far (blk_far hr7 (p := ⟨w.heap.size, 0, none⟩) (show w.heap.size + 2 ≠ w.heap.size by omega) (.string x.f0)) (p := ⟨w.heap.size, 1, none⟩) (show w.heap.size + 2 ≠ w.heap.size by omega) (.slice A8 q.1.length c8)
              have hb8 : Below w.heap.size w ((W7.setCell ⟨w.heap.size, 0, none⟩ (.string x.f0)).setCell ⟨w.heap.size, 1, none⟩ (.slice A8 q.1.length c8)) := (hb7.setCell (p := ⟨w.heap.size, 0, none⟩) (Nat.le_refl _) _).setCell (p := ⟨w.heap.size, 1, none⟩) (Nat.le_refl _) _
              have hvb := Kd.R_mono (ok' := fun k => k ≠ w.heap.size) (Kd.R_bound hv) (fun k hk => by have := hk.2.1; omega)
              have hv8 := Kd.R_far (p := ⟨w.heap.size, 1, none⟩) (Kd.R_far (p := ⟨w.heap.size, 0, none⟩) hvb (fun _ hk => hk) (.string x.f0)) (fun _ hk => hk) (.slice A8 q.1.length c8)
              refine wpAnyH_ready (rs := [7]) (by kernel_rfl) (by simp) (AllReadyH.cons (at_dropL rfl) (fun KC hKC => ?_) AllReadyH.nil)
              go_simp
              refine hKC.out _ _ ⟨blk_cell hkt8 0, blk_cell hkt8 2⟩ (fun hHeld => ?_)
              clear hKC KC hx70 hx71 hz70 hz71
              try simp only [Act.put, List.setIfInBounds_toArray, List.set_cons_zero, List.set_cons_succ]
              refine wpAnyH_done (by kernel_rfl) ?_ _
              dsimp only [stopQ]
              generalize (W7.setCell ⟨w.heap.size, 0, none⟩ (.string x.f0)).setCell ⟨w.heap.size, 1, none⟩ (.slice A8 q.1.length c8) = W8 at *
              have hrd := Kd.R_reads' hv8
              have HV8 := Lib.hid (Kd.R_mono (ok' := fun k => w.heap.size + 2 ≤ k) (Kd.R_lower (Kd.R_bound hv8) (show w.heap.size ≤ W6.heap.size by omega)) (fun k hk => by have := hk.2.1; omega))
              have HB8 := Lib.hid hb8
              have HT8 := Lib.hid (Tabs_.below hT_ hb8)
              have HKS8 := Lib.hid hks8
              have HKE8 := Lib.hid hke8
              have hy0 := blk_cell hr8 0
              have hy1 := blk_cell hks8 0
              have hy2 := blk_cell hks8 1
              have HRD := Lib.hid hrd
              clear hv8 hvb hv hrd hb8 hb7 hks7 hke7 hkt7 hr7 hg7 hkt8 hr8 hke8 hks8 hw67 hHeld
              by_cases hrl : q.2.length = 0
              · have hz : ((q.2.length : Int) == 0) = true := beq_iff_eq.2 (by omega)
                have hF := HFQ.out
                rw [if_pos hrl] at hF
                obtain ⟨ec, hec, hF⟩ := Option.bind_eq_some_iff.mp hF
                have HEC := Lib.hid hec
                clear hec
                by_cases he0 : ec = 0
                · rw [if_pos he0] at hF
                  subst he0
                  cases hF
                  go_wp2_with fail
                  refine (schema_Check.calls x.f0 A8 c8 q.1 0 W8 HRD.out.2.2 HRD.out.2.1 HEC.out HT8.out).mono ?_
                  rintro e W9 ⟨rfl, hb9⟩
                  have hks9 := blk_below HKS8.out hb9
                  have hke9 := blk_below HKE8.out hb9
                  have HB9 := Lib.hid (HB8.out.trans (hb9.mono HB8.out.size))
                  have hv9 := Kd.R_below HV8.out hb9
                  have hp0 := blk_cell hks9 0
                  have hp1 := blk_cell hks9 1
                  have hp2 := blk_cell hke9 0
                  have hy90 := blk_frozen hks9 0
                  have hy91 := blk_frozen hks9 1
                  have hy92 := blk_frozen hke9 0
                  have hks10 := blk_far (blk_put (blk_put hks9 0 (.string x.f0) rfl) 1 (.slice A8 q.1.length c8) rfl) (p := ⟨w.heap.size + 1, 0, none⟩) (show w.heap.size ≠ w.heap.size + 1 by omega) (.int .i64 0)
                  have hke10 := blk_put (blk_far (blk_far hke9 (p := ⟨w.heap.size, 0, none⟩) (show w.heap.size + 1 ≠ w.heap.size by omega) (.string x.f0)) (p := ⟨w.heap.size, 1, none⟩) (show w.heap.size + 1 ≠ w.heap.size by omega) (.slice A8 q.1.length c8)) 0 (.int .i64 0) rfl
                  have hvb9 := Kd.R_mono (ok' := fun k => k ≠ w.heap.size ∧ k ≠ w.heap.size + 1) (Kd.R_bound hv9) (fun k hk => by have := hk.1; omega)
                  have hv10 := Kd.R_far (p := ⟨w.heap.size + 1, 0, none⟩) (Kd.R_far (p := ⟨w.heap.size, 1, none⟩) (Kd.R_far (p := ⟨w.heap.size, 0, none⟩) hvb9 (fun _ hk => hk.1) (.string x.f0)) (fun _ hk => hk.1) (.slice A8 q.1.length c8)) (fun _ hk => hk.2) (.int .i64 0)
                  have hb10 := ((HB9.out.setCell (p := ⟨w.heap.size, 0, none⟩) (Nat.le_refl _) (.string x.f0)).setCell (p := ⟨w.heap.size, 1, none⟩) (Nat.le_refl _) (.slice A8 q.1.length c8)).setCell (p := ⟨w.heap.size + 1, 0, none⟩) (Nat.le_succ _) (.int .i64 0)
                  have HV10 := Lib.hid (Kd.R_mono (ok' := fun _ => True) hv10 (fun _ _ => trivial))
                  have HB10 := Lib.hid hb10
                  have HKS10 := Lib.hid hks10
                  have HKE10 := Lib.hid hke10
                  clear hv9 hvb9 hv10 hb10 hks10 hke10 hb9
                  go_wp2_with fail
                  refine (must_ok _).mono ?_
                  rintro e w' ⟨rfl, rfl⟩
                  go_wp2_with fail
                  have g0 := blk_cell HKS10.out 0
                  have g1 := blk_cell HKS10.out 1
                  have g2 := blk_cell HKE10.out 0
                  generalize (((w').setCell ⟨w.heap.size, 0, none⟩ (.string x.f0)).setCell ⟨w.heap.size, 1, none⟩ (.slice A8 q.1.length c8)).setCell ⟨w.heap.size + 1, 0, none⟩ (.int .i64 0) = W10 at *
                  refine leaves_cons (f := 34) (args := #[.pointer (some ⟨w.heap.size, 0, none⟩), .pointer (some ⟨w.heap.size + 1, 0, none⟩)]) (by simp) (by simp [go_sem]) ?_
                  refine (tree1_idle w.heap.size (w.heap.size + 1) W10).mono ?_
                  rintro e u' w2 ⟨rfl, rfl, rfl⟩
                  refine ⟨.tuple #[.agg #[.string x.f0, .slice A8 q.1.length c8], .int .i64 0], ?_, .slice A8 q.1.length c8, rfl, HV10.out, HB10.out⟩
                  simp only [results, Tryd.results14]
                  go_simp
                · rw [if_neg he0] at hF
                  cases hF
                  have hez : (ec == 0) = false := beq_eq_false_iff_ne.2 he0
                  clear he0
                  go_wp2_with fail
                  refine (schema_Check.calls x.f0 A8 c8 q.1 ec W8 HRD.out.2.2 HRD.out.2.1 HEC.out HT8.out).mono ?_
                  rintro e W9 ⟨rfl, hb9⟩
                  have hks9 := blk_below HKS8.out hb9
                  have hke9 := blk_below HKE8.out hb9
                  have HB9 := Lib.hid (HB8.out.trans (hb9.mono HB8.out.size))
                  clear hb9
                  go_wp2_with fail
                  refine (must_no _).mono ?_
                  rintro e w' ⟨rfl, rfl⟩
                  exact tree_fail _ w _ rfl rfl _ _ _ hks9 hke9 HB9.out
              · have hz : ((q.2.length : Int) == 0) = false := beq_eq_false_iff_ne.2 (by omega)
                have hF := HFQ.out
                rw [if_neg hrl] at hF
                cases hF
                go_wp2_with fail
                refine (must_no _).mono ?_
                rintro e w' ⟨rfl, rfl⟩
                exact tree_fail _ w _ rfl rfl _ _ _ HKS8.out HKE8.out HB8.out
          · have e4 : (x.f4 == 0) = false := beq_eq_false_iff_ne.2 f4
            have HF4 := Lib.hid f4
            clear f1 f3 f4
            have HFX := Lib.hid (show some ((⟨#[]⟩ : ByteArray), ([] : List S62), (260 : Int)) = some (r1, r2, r3) by
              have h := HF.out
              rw [if_neg (fun h => HF4.out h.2.2)] at h
              exact h)
            go_wp2_with fail
            refine (must_no _).mono ?_
            rintro e w' ⟨rfl, rfl⟩
            cases HFX.out
            exact tree_fail _ w _ rfl rfl _ _ _ HKS.out HKE.out HB5.out
        · have e3 : (x.f3 == 0) = false := beq_eq_false_iff_ne.2 f3
          have HF3 := Lib.hid f3
          clear f1 f3
          have HFX := Lib.hid (show some ((⟨#[]⟩ : ByteArray), ([] : List S62), (260 : Int)) = some (r1, r2, r3) by
            have h := HF.out
            rw [if_neg (fun h => HF3.out h.2.1)] at h
            exact h)
          go_wp2_with fail
          refine (must_no _).mono ?_
          rintro e w' ⟨rfl, rfl⟩
          cases HFX.out
          exact tree_fail _ w _ rfl rfl _ _ _ HKS.out HKE.out HB5.out
      · have e1 : (x.f1 == 0) = false := beq_eq_false_iff_ne.2 f1
        have HF1 := Lib.hid f1
        clear f1
        have HFX := Lib.hid (show some ((⟨#[]⟩ : ByteArray), ([] : List S62), (260 : Int)) = some (r1, r2, r3) by
          have h := HF.out
          rw [if_neg (fun h => HF1.out h.1)] at h
          exact h)
        go_wp2_with fail
        refine (must_no _).mono ?_
        rintro e w' ⟨rfl, rfl⟩
        cases HFX.out
        exact tree_fail _ w _ rfl rfl _ _ _ HKS.out HKE.out HB5.out


end Go.Proofs.YtjdjlccdidfgoaaDoor.H
end
