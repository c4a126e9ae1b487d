/- Texts of the claim, packed: H13. -/
import Derived.Lib.Hide
import Derived.Lib.SliceRun
import Derived.Test.YtncehlbhjoejhaaZRangesParts4
import Derived.Test.YtncehlbhjoejhaaZRangesParts7
section
-- Laid by this session's hprint.py, out of the kit's print.py and texts of the session. Not trusted: Lean checks it.
namespace Go.Proofs.Ytncehlbhjoejhaa.H
open Go.RowKit Go.Proofs.YtncehlbhjoejhaaW.PrintWords Go.Proofs.YtncehlbhjoejhaaW.PrintLast Go.Proofs.YtncehlbhjoejhaaW.PrintMore
attribute [local go_sem] max2_int min2_int max_two min_two max_three min_three max_four min_four   -- for this text's walks alone
set_option linter.unusedVariables false
set_option linter.unusedSimpArgs false

-- OVPART Derived.Lib.Hide Derived.Lib.SliceRun
/-! ### api_Datum_32: function 32 -/
structure TellsAll (g : Nat) (lb : Array Value) (l : List S29) (p : S29 → Bool) : Prop where
  calls : ∀ x, x ∈ l → ∀ W, Calls Try.prog g (#[aggD x] ++ lb) W fun e W' => e = .returned (.bool (p x)) ∧ Below W.heap.size W W'
theorem TellsAll.at_ {g : Nat} {lb : Array Value} {l : List S29} {p : S29 → Bool} (h : TellsAll g lb l p) (w : World) : TellsD g lb l p w := ⟨fun x hx W _ => h.calls x hx W⟩
theorem filter_next (p : S29 → Bool) (l : List S29) (j : Nat) (hj : j < l.length) (b : Bool) (hb : p (rd_T29 l (j : Int)) = b) : (l.take (j + 1)).filter (fun x => !p x) = (l.take j).filter (fun x => !p x) ++ (if b = true then [] else [rd_T29 l (j : Int)]) := by
  have hrd : rd_T29 l (j : Int) = l[j] := by unfold rd_T29; rw [Int.toNat_natCast, List.getD_eq_getElem?_getD, List.getElem?_eq_getElem hj]; rfl
  rw [List.take_succ_eq_append_getElem hj, List.filter_append]
  congr 1
  rw [hrd] at hb ⊢
  rw [List.filter_cons, hb]
  cases b <;> simp
theorem idxD_cases (p : S29 → Bool) (l : List S29) : (idxD p l = -1 ∧ l.filter (fun x => !p x) = l) ∨ (∃ k : Nat, idxD p l = (k : Int) ∧ k < l.length ∧ (l.take (k + 1)).filter (fun x => !p x) = l.take k) := by
  unfold idxD
  cases h : l.findIdx? p with
  | none =>
    rw [List.findIdx?_eq_none_iff] at h
    exact .inl ⟨rfl, List.filter_eq_self.mpr (fun x hx => by rw [h x hx]; rfl)⟩
  | some i =>
    rw [List.findIdx?_eq_some_iff_getElem] at h
    obtain ⟨hi, hp, hno⟩ := h
    refine .inr ⟨i, rfl, hi, ?_⟩
    have hrd : rd_T29 l (i : Int) = l[i] := by unfold rd_T29; rw [Int.toNat_natCast, List.getD_eq_getElem?_getD, List.getElem?_eq_getElem hi]; rfl
    rw [filter_next p l i hi true (by rw [hrd]; exact hp), if_pos rfl, List.append_nil]
    refine List.filter_eq_self.mpr (fun x hx => ?_)
    obtain ⟨j, hj, rfl⟩ := List.getElem_of_mem hx
    rw [List.length_take] at hj
    rw [List.getElem_take]
    have := hno j (by omega)
    simpa using this
theorem zero_datum (w : World) : (zeroValue 29).run Try.prog w = .ok (.agg #[.int .i64 0, .int .i64 0, .string ⟨#[]⟩]) w := by
  go_simp
theorem new3 {w w' : World} {x y z : Value} {T : TypeId} (hb : Below (w.alloc (.cells #[x, y, z] T)).heap.size (w.alloc (.cells #[x, y, z] T)) w') :
    w'.cell? ⟨w.heap.size, 0, none⟩ = some x ∧ w'.cell? ⟨w.heap.size, 1, none⟩ = some y ∧ w'.cell? ⟨w.heap.size, 2, none⟩ = some z := by
  have hN : (w.alloc (.cells #[x, y, z] T)).heap.size = w.heap.size + 1 := by simp
  refine ⟨?_, ?_, ?_⟩
  · rw [hb.cell (p := ⟨w.heap.size, 0, none⟩) (by rw [hN]; exact Nat.lt_succ_self _)]; simp [go_sem]
  · rw [hb.cell (p := ⟨w.heap.size, 1, none⟩) (by rw [hN]; exact Nat.lt_succ_self _)]; simp [go_sem]
  · rw [hb.cell (p := ⟨w.heap.size, 2, none⟩) (by rw [hN]; exact Nat.lt_succ_self _)]; simp [go_sem]
theorem elem3 {W : World} {base g n cap : Nat} {xs : List S29} (h : Kd.Q k29 29 W base (fun _ => True) (.slice (some ⟨g, 0, none⟩) n cap) xs) (i : Nat) (hi : i < n) :
    ∃ u0 u1 u2 : Value, W.cell? ⟨g, i * 3, none⟩ = some u0 ∧ W.cell? ⟨g, i * 3 + 1, none⟩ = some u1 ∧ W.cell? ⟨g, i * 3 + 2, none⟩ = some u2 ∧ W.frozen? ⟨g, i * 3, none⟩ = false ∧ W.frozen? ⟨g, i * 3 + 1, none⟩ = false ∧ W.frozen? ⟨g, i * 3 + 2, none⟩ = false ∧
      ∀ x : S29, Kd.Q k29 29 (((W.setCell ⟨g, i * 3, none⟩ (.int .i64 x.f0)).setCell ⟨g, i * 3 + 1, none⟩ (.int .i64 x.f1)).setCell ⟨g, i * 3 + 2, none⟩ (.string x.f2)) base (fun _ => True) (.slice (some ⟨g, 0, none⟩) n cap) (xs.set i x) := by
  obtain ⟨c, hcl, _, hcc, hcf⟩ := Kd.Q_elem h z29 (i : Int) (by omega) (by omega)
  have hsz : (Kd.sz k29) = 3 := rfl
  rw [hsz] at hcl
  match c, hcl with
  | [u0, u1, u2], _ =>
    have e : ∀ j, (0 + (i : Int).toNat * (Kd.sz k29) + j) = i * 3 + j := fun j => by rw [hsz]; omega
    have q0 := hcc 0 u0 rfl
    have q1 := hcc 1 u1 rfl
    have q2 := hcc 2 u2 rfl
    rw [e] at q0 q1 q2
    refine ⟨u0, u1, u2, q0, q1, q2, ?_, ?_, ?_, fun x => ?_⟩
    · have := hcf 0; rw [e] at this; exact this
    · have := hcf 1; rw [e] at this; exact this
    · have := hcf 2; rw [e] at this; exact this
    · have := (Kd.Q_seg h (i : Int) (by omega) (by omega) (c := [u0, u1, u2]) (seg := [.int .i64 x.f0, .int .i64 x.f1, .string x.f2]) (j := 0) (okp := fun _ => False) rfl hcc (by rw [hsz]; simp) (x' := x) (k29_mkM W base (fun _ => False) x) (fun _ hk => hk.elim)).1
      rw [e] at this
      exact this
def zrow (n : Nat) : List Value := (Builtin.zeroCells (#[.int .i64 0, .int .i64 0, .string ⟨#[]⟩] : Array Value) n).toList
theorem zrow_len (n : Nat) : (zrow n).length = n * 3 := by simp [zrow, Builtin.zeroCells]
theorem zrow_zero : zrow 0 = [] := by simp [zrow, Builtin.zeroCells]
theorem zrow_succ (n : Nat) : zrow (n + 1) = [Value.int .i64 0, Value.int .i64 0, Value.string ⟨#[]⟩] ++ zrow n := by
  apply List.ext_getElem
  · rw [List.length_append, zrow_len, zrow_len]; simp; omega
  · intro i h1 h2
    have hz : ∀ m j (h : j < (zrow m).length), (zrow m)[j] = (#[.int .i64 0, .int .i64 0, .string ⟨#[]⟩] : Array Value)[j % 3]! := fun m j h => by simp [zrow, Builtin.zeroCells]
    rw [hz]
    by_cases h3 : i < 3
    · rw [List.getElem_append_left (by simpa using h3)]
      match i, h3 with
      | 0, _ => rfl
      | 1, _ => rfl
      | 2, _ => rfl
    · rw [List.getElem_append_right (by simp; omega), hz]
      simp only [List.length_cons, List.length_nil]
      congr 1
      omega
theorem zrow_one (n : Nat) : ∀ v ∈ zrow n, v.oneCell' = true := by
  induction n with
  | zero => intro v hv; rw [zrow_zero] at hv; cases hv
  | succ n ih =>
    intro v hv
    rw [zrow_succ, List.mem_append] at hv
    rcases hv with hv | hv
    · simp at hv; rcases hv with rfl | rfl | rfl <;> rfl
    · exact ih v hv
/-- What is cleared from i on is zero; what lies ahead stands. -/
theorem clear3 {base g cap : Nat} (d : Nat) : ∀ (W : World) (i n : Nat) (xs : List S29), i + d = n → Kd.Q k29 29 W base (fun _ => True) (.slice (some ⟨g, 0, none⟩) n cap) xs →
    ∃ ys, ys.take i = xs.take i ∧ Kd.Q k29 29 (W.setCells g (i * 3) (zrow d)) base (fun _ => True) (.slice (some ⟨g, 0, none⟩) n cap) ys := by
  induction d with
  | zero => intro W i n xs _ hQ; exact ⟨xs, rfl, by rw [zrow_zero]; exact hQ⟩
  | succ d ih =>
    intro W i n xs hn hQ
    obtain ⟨u0, u1, u2, _, _, _, _, _, _, hput⟩ := elem3 hQ i (by omega)
    obtain ⟨ys, hy, hq⟩ := ih _ (i + 1) n _ (by omega) (hput z29)
    refine ⟨ys, ?_, ?_⟩
    · have h1 := congrArg (fun l => l.take i) hy
      simp only [List.take_take] at h1
      rw [show min i (i + 1) = i by omega] at h1
      rw [h1, List.take_set_of_le (by omega)]
    · rw [zrow_succ]
      have e : (i + 1) * 3 = i * 3 + 1 + 1 + 1 := by omega
      rw [e] at hq
      exact hq
theorem run_clear3 (w : World) (ty b n c i : Nat) (hi : i < n)
    (hc : ∀ j, j < n - i → ∃ u0 u1 u2 : Value, w.cell? ⟨b, (i + j) * 3, none⟩ = some u0 ∧ w.cell? ⟨b, (i + j) * 3 + 1, none⟩ = some u1 ∧ w.cell? ⟨b, (i + j) * 3 + 2, none⟩ = some u2 ∧ w.frozen? ⟨b, (i + j) * 3, none⟩ = false ∧ w.frozen? ⟨b, (i + j) * 3 + 1, none⟩ = false ∧ w.frozen? ⟨b, (i + j) * 3 + 2, none⟩ = false) :
    (Builtin.clear_ #[25] ty #[.slice (some ⟨b, i * 3, none⟩) (n - i) c]).run Try.prog w = .ok (.tuple #[]) (w.setCells b (i * 3) (zrow (n - i))) := by
  have hfact : ∀ q, q < (n - i) * 3 → (w.cell? ⟨b, i * 3 + q, none⟩).isSome = true ∧ w.frozen? ⟨b, i * 3 + q, none⟩ = false := by
    intro q hq
    obtain ⟨u0, u1, u2, h0, h1, h2, f0, f1, f2⟩ := hc (q / 3) (by omega)
    have hq3 : q = q / 3 * 3 + q % 3 := by omega
    have e : i * 3 + q = (i + q / 3) * 3 + q % 3 := by omega
    rw [e]
    have h3 : q % 3 = 0 ∨ q % 3 = 1 ∨ q % 3 = 2 := by omega
    rcases h3 with h | h | h <;> rw [h]
    · exact ⟨by rw [Nat.add_zero, h0]; rfl, f0⟩
    · exact ⟨by rw [h1]; rfl, f1⟩
    · exact ⟨by rw [h2]; rfl, f2⟩
  have hst := run_storeCells_cells (P := Try.prog) b (i * 3) (zrow (n - i)) 0 w (fun j hj => by rw [zrow_len] at hj; rw [Nat.add_zero]; exact (hfact j hj).1) (fun j hj => by rw [zrow_len] at hj; rw [Nat.add_zero]; exact (hfact j hj).2) (zrow_one _)
  rw [Nat.add_zero] at hst
  obtain ⟨m, hm⟩ : ∃ m, n - i = m + 1 := ⟨n - i - 1, by omega⟩
  rw [hm] at hst ⊢
  have hzc : (Builtin.zeroCells (Value.agg #[.int .i64 0, .int .i64 0, .string ⟨#[]⟩]).cells (m + 1)).toList = zrow (m + 1) := rfl
  simp [Builtin.clear_, run_underlying Try.underlying25, zero_datum, hzc, hst]
set_option maxRecDepth 100000 in
set_option maxHeartbeats 4000000 in
theorem delete_func (g : Nat) (gn : Func) (hf : Try.prog.funcs[g]? = some gn) (hname : (gn.name == "runtime.NumGoroutine") = false) (hbody : gn.body.isSome = true) (lb : Array Value) (base : Nat) (A : Option Addr) (c : Nat) (l : List S29) (p : S29 → Bool) (w : World) (hR : Kd.R k29 29 w base (fun _ => True) (.slice A l.length c) l) (hbase : base ≤ w.heap.size) (hg : TellsAll g lb l p) (hlen : l.length ≤ 1000000) :
    Calls Try.prog 32 #[.slice A l.length c, .func (.func g) #[] lb] w fun e w' => ∃ A' c', e = .returned (.slice A' (l.filter (fun x => !p x)).length c') ∧ (l.filter (fun x => !p x)).length ≤ c' ∧ Kd.C k29 w' A' (l.filter (fun x => !p x)).length (l.filter (fun x => !p x)) ∧ Below base w w' := by
  have hrd := Kd.R_reads' hR
  have HC := idxD_cases p l
  rcases HC with ⟨hi, hfl⟩ | ⟨k, hi, hkl, hfl⟩
  · have HF := Lib.hid hfl
    clear hfl
    have HI := Lib.hid hi
    clear hi
    rw [HF.out]
    go_enter Try.func32, Try.ntmps32
    go_wp2_with fail
    refine (index_func g gn hf hname hbody lb A c l p w hrd.2.2 (hg.at_ w) (by omega)).mono ?_
    rintro e w1 ⟨rfl, hB⟩
    rw [HI.out]
    go_wp2_with fail
    go_ret
    exact ⟨A, c, rfl, hrd.2.1, Kd.C_below hrd.2.2 hB, hB.mono hbase⟩
  · obtain ⟨inner, hown⟩ := Kd.R_own hR
    obtain ⟨gb, cc, e2, hg1, hg2⟩ := World.ownsRow.form hown (by omega)
    obtain rfl : A = some ⟨gb, 0, none⟩ := by injection e2
    clear e2 hown
    have HF := Lib.hid hfl
    have HI := Lib.hid hi
    clear hfl hi
    have hcap := hrd.2.1
    go_enter Try.func32, Try.ntmps32
    go_wp2_with fail
    refine (index_func g gn hf hname hbody lb (some ⟨gb, 0, none⟩) c l p w hrd.2.2 (hg.at_ w) (by omega)).mono ?_
    rintro e w1 ⟨rfl, hB⟩
    rw [HI.out]
    have hQ1 := Kd.Q_of_R (Kd.R_below hR hB)
    have hBb : Below base w w1 := hB.mono hbase
    clear hB hR hrd
    have h0k : ((k : Int) == -1) = false := beq_eq_false_iff_ne.mpr (by omega)
    go_wp2_with fail
    go_loopw [5, 6] (fun vi vj wr => ∃ i j : Nat, ∃ m : List S29, i < j ∧ j ≤ l.length ∧ vi = .int .i64 i ∧ vj = .int .i64 j ∧ Hid (m.length = l.length) ∧ Hid (m.take i = (l.take j).filter (fun x => !p x)) ∧ Hid (m.drop j = l.drop j) ∧ Kd.Q k29 29 wr base (fun _ => True) (.slice (some ⟨gb, 0, none⟩) l.length c) m ∧ Below base w wr) (fun _ vj _ => l.length - (intOf vj).toNat)
    case atStart => exact ⟨k, k + 1, l, by omega, by omega, rfl, by go_num, Lib.hid rfl, Lib.hid HF.out.symm, Lib.hid rfl, hQ1, hBb⟩
    case round =>
      obtain ⟨i, j, m, hij, hjn, rfl, rfl, hml, hmt, hmd, hQ, hBr⟩ := hrel
      by_cases hlt : j < l.length
      · have hrj : rd_T29 m (j : Int) = rd_T29 l (j : Int) := by
          have h1 : m[j]? = l[j]? := by
            have := congrArg (fun q => q[0]?) hmd.out
            simpa using this
          unfold rd_T29
          rw [Int.toNat_natCast, List.getD_eq_getElem?_getD, List.getD_eq_getElem?_getD, h1]
        obtain ⟨ad, e0, hx0, hx1, hx2⟩ := at_T29 (Kd.Q_reads' hQ).2.2 (j : Int) (by omega) (by rw [hml.out]; omega)
        rw [hrj] at hx0 hx1 hx2
        have hmem := rdD_mem l j (by omega)
        have hnx := filter_next p l j (by omega) _ rfl
        obtain ⟨x, hx⟩ : ∃ x, x = rd_T29 l (j : Int) := ⟨_, rfl⟩
        rw [← hx] at hx0 hx1 hx2 hmem hnx
        injection e0 with e0
        subst e0
        simp only [Int.toNat_natCast, add_plain] at hx0 hx1 hx2
        have hcl := fun W => hg.calls x hmem W
        obtain ⟨b, hb⟩ : ∃ b, b = p x := ⟨_, rfl⟩
        rw [← hb] at hcl hnx
        have HCL := Lib.hid hcl
        have HNX := Lib.hid hnx
        clear hcl hnx hrj hx hmem hb
        have hil : i < l.length := by omega
        cases b
        all_goals
          go_wp2_with (first | ((with_reducible refine gate_dst (N := 28) rfl ?_); go_loud (refine goesC_ (some 28) rfl rfl hf hname hbody lb #[aggD x] rfl rfl (by (try simp only [List.map_toArray, List.map_cons, List.map_nil]); first | done | rfl) ?_; refine (HCL.out _).mono ?_; rintro e w2 ⟨rfl, hb2⟩; have hbw := below_step (below_alloc (Below.refl wr.heap.size wr) _) hb2; have hn := new3 hb2; obtain ⟨hn0, hn1, hn2⟩ := hn; have hE := elem3 (Kd.Q_below hQ hbw) i hil; obtain ⟨u0, u1, u2, hs0, hs1, hs2, hf0, hf1, hf2, hput⟩ := hE; have HPUT := Lib.hid hput; clear hput; refine ⟨_, rfl, ?_⟩)))
        · have hBW : Below base w w2 := hBr.trans (hbw.mono (Nat.le_trans hbase hBr.size))
          go_roundw
          case rel =>
            refine ⟨i + 1, j + 1, m.set i x, by omega, by omega, by go_num, by go_num, Lib.hid (by rw [List.length_set]; exact hml.out), Lib.hid ?_, Lib.hid ?_, HPUT.out x, ?_⟩
            · have h1 := HNX.out
              rw [if_neg (by simp)] at h1
              rw [h1, ← hmt.out, List.take_succ_eq_append_getElem (by rw [List.length_set, hml.out]; exact hil), List.take_set_of_le (Nat.le_refl _), List.getElem_set_self]
            · rw [List.drop_set_of_lt (by omega)]
              have := congrArg (List.drop 1) hmd.out
              rw [List.drop_drop, List.drop_drop] at this
              exact this
            · exact ((hBW.setCell (p := ⟨gb, i * 3, none⟩) hg1 _).setCell (p := ⟨gb, i * 3 + 1, none⟩) hg1 _).setCell (p := ⟨gb, i * 3 + 2, none⟩) hg1 _
          case measure => simp [intOf]; omega
        · have hBW : Below base w w2 := hBr.trans (hbw.mono (Nat.le_trans hbase hBr.size))
          go_roundw
          case rel =>
            refine ⟨i, j + 1, m, by omega, by omega, rfl, by go_num, hml, Lib.hid ?_, Lib.hid ?_, Kd.Q_below hQ hbw, hBW⟩
            · have h1 := HNX.out
              first
                | rw [if_pos rfl, List.append_nil] at h1; rw [h1, ← hmt.out]
                | (simp only [if_true, List.append_nil] at h1; rw [h1, ← hmt.out])
            · have := congrArg (List.drop 1) hmd.out
              rw [List.drop_drop, List.drop_drop] at this
              exact this
          case measure => simp [intOf]; omega
      · have hje : j = l.length := by omega
        subst hje
        have hcl := run_clear3 wr 0 gb l.length (c - i) i hij (fun q hq => by obtain ⟨u0, u1, u2, h0, h1, h2, f0, f1, f2, _⟩ := elem3 hQ (i + q) (by omega); exact ⟨u0, u1, u2, h0, h1, h2, f0, f1, f2⟩)
        have HML := Lib.hid hml.out
        have HMT := Lib.hid hmt.out
        go_wp2_with fail
        obtain ⟨ys, hy, hq⟩ := clear3 (l.length - i) wr i l.length m (by omega) hQ
        have hyl := (Kd.Q_reads' hq).1
        have hq2 := Kd.Q_reads' (Kd.Q_take hq (m := i) (by omega))
        have hmf : m.take i = l.filter (fun x => !p x) := by rw [HMT.out, List.take_length]
        have hlf : (l.filter (fun x => !p x)).length = i := by rw [← hmf, List.length_take, HML.out]; omega
        rw [hy, hmf] at hq2
        obtain ⟨e1, e3, e4⟩ := hq2
        go_ret
        refine ⟨some ⟨gb, 0, none⟩, c, by rw [hlf]; rfl, by rw [hlf]; omega, e4, ?_⟩
        obtain ⟨s1, s2, s3, s4⟩ := setCells_same gb (zrow (l.length - i)) (i * 3) wr
        exact hBr.grown (row := some gb) ⟨s1, s2, s3, by rw [s4]; exact Nat.le_refl _, fun k _ hk => setCells_far _ _ k (fun he => hk (by rw [he]))⟩ (Nat.le_trans hbase hBr.size) (fun k hk => by injection hk with hk; rw [← hk]; exact hg1)


end Go.Proofs.Ytncehlbhjoejhaa.H
end
