/-! Bytes of values laid byte by byte, in plain Lean: a byte's place, there and back. -/
namespace Go.Proofs.YtkpmjijhgmmjoaaP
/-- Where byte 'at' of n values of w bytes stands. -/
def place (w n a : Nat) : Nat := (a % w) * n + a / w
theorem place_lt {w n a : Nat} (h : a < w * n) : place w n a < w * n := by
  unfold place
  have hw : 0 < w := by
    rcases Nat.eq_zero_or_pos w with h0 | h0
    · subst h0; simp at h
    · exact h0
  have h1 : a % w < w := Nat.mod_lt _ hw
  have h2 : a / w < n := by
    rw [Nat.div_lt_iff_lt_mul hw, Nat.mul_comm]
    exact h
  have h3 : (a % w + 1) * n ≤ w * n := Nat.mul_le_mul_right n h1
  rw [Nat.add_mul, Nat.one_mul] at h3
  omega
/-- The place of n values' width undoes it. -/
theorem place_place {w n a : Nat} (h : a < w * n) : place n w (place w n a) = a := by
  have hw : 0 < w := by
    rcases Nat.eq_zero_or_pos w with h0 | h0
    · subst h0; simp at h
    · exact h0
  have h2 : a / w < n := by
    rw [Nat.div_lt_iff_lt_mul hw, Nat.mul_comm]
    exact h
  have hn : 0 < n := Nat.lt_of_le_of_lt (Nat.zero_le _) h2
  unfold place
  have e1 : ((a % w) * n + a / w) % n = a / w := by
    rw [Nat.add_comm, Nat.add_mul_mod_self_right, Nat.mod_eq_of_lt h2]
  have e2 : ((a % w) * n + a / w) / n = a % w := by
    rw [Nat.add_comm, Nat.add_mul_div_right _ _ hn, Nat.div_eq_of_lt h2, Nat.zero_add]
  rw [e1, e2]
  have := Nat.div_add_mod a w
  rw [Nat.mul_comm] at this
  exact this
/-- Bytes laid: at p stands the byte whose place p is. -/
def laid (w : Nat) (l : List Int) : List Int := (List.range l.length).map fun p => l.getD (place (l.length / w) w p) 0
/-- Bytes read back: at a stands the byte that stood at a's place. -/
def back (w : Nat) (l : List Int) : List Int := (List.range l.length).map fun a => l.getD (place w (l.length / w) a) 0
theorem laid_len (w : Nat) (l : List Int) : (laid w l).length = l.length := by simp [laid]
theorem back_len (w : Nat) (l : List Int) : (back w l).length = l.length := by simp [back]
theorem getD_map_range (n : Nat) (f : Nat → Int) (i : Nat) (h : i < n) : ((List.range n).map f).getD i 0 = f i := by
  rw [List.getD_eq_getElem?_getD, List.getElem?_map, List.getElem?_range h]
  rfl
theorem laid_at (w : Nat) (l : List Int) (p : Nat) (h : p < l.length) : (laid w l).getD p 0 = l.getD (place (l.length / w) w p) 0 := getD_map_range _ _ _ h
theorem back_at (w : Nat) (l : List Int) (p : Nat) (h : p < l.length) : (back w l).getD p 0 = l.getD (place w (l.length / w) p) 0 := getD_map_range _ _ _ h
theorem ext_getD (l m : List Int) (hl : l.length = m.length) (h : ∀ i, i < l.length → l.getD i 0 = m.getD i 0) : l = m := by
  apply List.ext_getElem hl
  intro i h1 h2
  have := h i h1
  rw [List.getD_eq_getElem?_getD, List.getD_eq_getElem?_getD, List.getElem?_eq_getElem h1, List.getElem?_eq_getElem h2] at this
  exact this
theorem whole {w N : Nat} (h : N % w = 0) : w * (N / w) = N := by
  have := Nat.div_add_mod N w
  omega
theorem back_laid (w : Nat) (l : List Int) (hd : l.length % w = 0) : back w (laid w l) = l := by
  have hw := whole hd
  refine ext_getD _ _ (by rw [back_len, laid_len]) (fun i hi => ?_)
  rw [back_len, laid_len] at hi
  have hi' : i < w * (l.length / w) := by rw [hw]; exact hi
  rw [back_at _ _ _ (by rw [laid_len]; exact hi), laid_len, laid_at _ _ _ (by have := place_lt hi'; omega), place_place hi']
theorem laid_back (w : Nat) (l : List Int) (hd : l.length % w = 0) : laid w (back w l) = l := by
  have hw := whole hd
  refine ext_getD _ _ (by rw [laid_len, back_len]) (fun i hi => ?_)
  rw [laid_len, back_len] at hi
  have hi' : i < (l.length / w) * w := by rw [Nat.mul_comm, hw]; exact hi
  have h2 := place_lt hi'
  rw [laid_at _ _ _ (by rw [back_len]; exact hi), back_len, back_at _ _ _ (by rw [Nat.mul_comm, hw] at h2; exact h2), place_place hi']
/-- The width that is the number of values undoes it. -/
theorem laid_laid (w : Nat) (l : List Int) (hd : l.length % w = 0) (hn : 0 < l.length / w) : laid (l.length / w) (laid w l) = l := by
  have hw := whole hd
  have hdiv : l.length / (l.length / w) = w := by
    have e : l.length = w * (l.length / w) := hw.symm
    generalize l.length / w = n at *
    rw [e, Nat.mul_comm, Nat.mul_div_cancel_left _ hn]
  refine ext_getD _ _ (by rw [laid_len, laid_len]) (fun i hi => ?_)
  rw [laid_len, laid_len] at hi
  have hi' : i < w * (l.length / w) := by rw [hw]; exact hi
  rw [laid_at _ _ _ (by rw [laid_len]; exact hi), laid_len, hdiv, laid_at _ _ _ (by have := place_lt hi'; omega), place_place hi']
/-- Of the width 1 nothing is moved. -/
theorem laid_one (l : List Int) : laid 1 l = l := by
  refine ext_getD _ _ (laid_len _ _) (fun i hi => ?_)
  rw [laid_len] at hi
  rw [laid_at _ _ _ hi]
  unfold place
  rw [Nat.div_one, Nat.mod_eq_of_lt hi, Nat.div_eq_of_lt hi, Nat.mul_one, Nat.add_zero]
/-- What stands behind k of the moves of Write: places whose byte has come hold it, the others nothing. -/
def wrote (w : Nat) (l : List Int) (k : Nat) : List Int := (List.range l.length).map fun p => if place (l.length / w) w p < k then l.getD (place (l.length / w) w p) 0 else 0
theorem wrote_len (w : Nat) (l : List Int) (k : Nat) : (wrote w l k).length = l.length := by simp [wrote]
theorem wrote_zero (w : Nat) (l : List Int) : wrote w l 0 = List.replicate l.length 0 := by
  refine ext_getD _ _ (by rw [wrote_len, List.length_replicate]) (fun i hi => ?_)
  rw [wrote_len] at hi
  unfold wrote
  rw [getD_map_range _ _ _ hi, if_neg (by omega), List.getD_eq_getElem?_getD, List.getElem?_replicate, if_pos hi]
  rfl
theorem wrote_all (w : Nat) (l : List Int) (hd : l.length % w = 0) : wrote w l l.length = laid w l := by
  have hw := whole hd
  refine ext_getD _ _ (by rw [wrote_len, laid_len]) (fun i hi => ?_)
  rw [wrote_len] at hi
  have hi' : i < (l.length / w) * w := by rw [Nat.mul_comm, hw]; exact hi
  have h2 := place_lt hi'
  rw [Nat.mul_comm, hw] at h2
  rw [laid_at _ _ _ hi]
  unfold wrote
  rw [getD_map_range _ _ _ hi, if_pos h2]
theorem wrote_next (w : Nat) (l : List Int) (hd : l.length % w = 0) (k : Nat) (hk : k < l.length) : (wrote w l k).set (place w (l.length / w) k) (l.getD k 0) = wrote w l (k + 1) := by
  have hw := whole hd
  have hk' : k < w * (l.length / w) := by rw [hw]; exact hk
  have hp := place_lt hk'
  rw [hw] at hp
  refine ext_getD _ _ (by rw [List.length_set, wrote_len, wrote_len]) (fun i hi => ?_)
  rw [List.length_set, wrote_len] at hi
  have hi' : i < (l.length / w) * w := by rw [Nat.mul_comm, hw]; exact hi
  have e2 : (wrote w l (k + 1)).getD i 0 = if place (l.length / w) w i < k + 1 then l.getD (place (l.length / w) w i) 0 else 0 := getD_map_range _ _ _ hi
  have e1 : (wrote w l k).getD i 0 = if place (l.length / w) w i < k then l.getD (place (l.length / w) w i) 0 else 0 := getD_map_range _ _ _ hi
  rw [e2]
  by_cases h : place w (l.length / w) k = i
  · subst h
    rw [place_place hk', if_pos (by omega), List.getD_eq_getElem?_getD, List.getElem?_set_self (by rw [wrote_len]; exact hp)]
    rfl
  · have hne : place (l.length / w) w i ≠ k := fun e => h (by rw [← e]; exact place_place hi')
    have e3 : ((wrote w l k).set (place w (l.length / w) k) (l.getD k 0)).getD i 0 = (wrote w l k).getD i 0 := by
      rw [List.getD_eq_getElem?_getD, List.getElem?_set_ne h, ← List.getD_eq_getElem?_getD]
    rw [e3, e1]
    by_cases h3 : place (l.length / w) w i < k
    · rw [if_pos h3, if_pos (by omega)]
    · rw [if_neg h3, if_neg (by omega)]
/-- What stands behind k of the moves of Read. -/
def got (w : Nat) (l : List Int) (k : Nat) : List Int := (List.range l.length).map fun a => if a < k then l.getD (place w (l.length / w) a) 0 else 0
theorem got_len (w : Nat) (l : List Int) (k : Nat) : (got w l k).length = l.length := by simp [got]
theorem got_zero (w : Nat) (l : List Int) : got w l 0 = List.replicate l.length 0 := by
  refine ext_getD _ _ (by rw [got_len, List.length_replicate]) (fun i hi => ?_)
  rw [got_len] at hi
  unfold got
  rw [getD_map_range _ _ _ hi, if_neg (by omega), List.getD_eq_getElem?_getD, List.getElem?_replicate, if_pos hi]
  rfl
theorem got_all (w : Nat) (l : List Int) (_hd : l.length % w = 0) : got w l l.length = back w l := by
  refine ext_getD _ _ (by rw [got_len, back_len]) (fun i hi => ?_)
  rw [got_len] at hi
  rw [back_at _ _ _ hi]
  unfold got
  rw [getD_map_range _ _ _ hi, if_pos hi]
theorem got_next (w : Nat) (l : List Int) (_hd : l.length % w = 0) (k : Nat) (hk : k < l.length) : (got w l k).set k (l.getD (place w (l.length / w) k) 0) = got w l (k + 1) := by
  refine ext_getD _ _ (by rw [List.length_set, got_len, got_len]) (fun i hi => ?_)
  rw [List.length_set, got_len] at hi
  have e2 : (got w l (k + 1)).getD i 0 = if i < k + 1 then l.getD (place w (l.length / w) i) 0 else 0 := getD_map_range _ _ _ hi
  have e1 : (got w l k).getD i 0 = if i < k then l.getD (place w (l.length / w) i) 0 else 0 := getD_map_range _ _ _ hi
  rw [e2]
  by_cases h : k = i
  · subst h
    rw [if_pos (by omega), List.getD_eq_getElem?_getD, List.getElem?_set_self (by rw [got_len]; exact hk)]
    rfl
  · have e3 : ((got w l k).set k (l.getD (place w (l.length / w) k) 0)).getD i 0 = (got w l k).getD i 0 := by
      rw [List.getD_eq_getElem?_getD, List.getElem?_set_ne h, ← List.getD_eq_getElem?_getD]
    rw [e3, e1]
    by_cases h3 : i < k
    · rw [if_pos h3, if_pos (by omega)]
    · rw [if_neg h3, if_neg (by omega)]
end Go.Proofs.YtkpmjijhgmmjoaaP
