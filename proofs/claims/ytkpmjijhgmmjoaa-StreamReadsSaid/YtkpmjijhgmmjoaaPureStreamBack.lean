/- What is laid byte by byte is read as it was, and what is read is laid again (StreamBack), at every width and every byte string that the guard lets in. -/
import Derived.Test.YtkpmjijhgmmjoaaSayStreamBack
namespace Go.Proofs.Ytkpmjijhgmmjoaa.streamBack
open Go.RowKit Go.Proofs.YtkpmjijhgmmjoaaW.PrintWords Go.Proofs.YtkpmjijhgmmjoaaW.PrintLast Go.Proofs.YtkpmjijhgmmjoaaW.PrintMore Go.Proofs.Ytkpmjijhgmmjoaa.H Go.Proofs.YtkpmjijhgmmjoaaO Go.Proofs.YtkpmjijhgmmjoaaP
set_option linter.unusedVariables false
theorem check_some (a n : Int) : ∃ e, stream_check.f a n = some e := by
  unfold stream_check.f
  repeat' split
  all_goals first | exact ⟨_, rfl⟩ | omega
theorem bind_of {α β : Type} {o : Option α} {x : α} (h : o = some x) (f : α → Option β) : o.bind f = f x := by rw [h]; rfl
theorem num_some (x : Int) : marquetrylaw15_num.f x = some x := rfl
theorem works_some : marquetrylaw15_works.f = some true := rfl
theorem write_ok {a : Int} {l : List Int} (h : stream_check.f a (l.length : Int) = some 0) : stream_Write.f a l = some (laid a.toNat l, 0) := by
  unfold stream_Write.f
  rw [bind_of h, if_pos rfl]
theorem read_ok {a : Int} {l : List Int} (h : stream_check.f a (l.length : Int) = some 0) : stream_Read.f a l = some (back a.toNat l, 0) := by
  unfold stream_Read.f
  rw [bind_of h, if_pos rfl]
theorem write_no {a e : Int} {l : List Int} (h : stream_check.f a (l.length : Int) = some e) (he : e ≠ 0) : stream_Write.f a l = some ([], e) := by
  unfold stream_Write.f
  rw [bind_of h, if_neg he]
theorem read_no {a e : Int} {l : List Int} (h : stream_check.f a (l.length : Int) = some e) (he : e ≠ 0) : stream_Read.f a l = some ([], e) := by
  unfold stream_Read.f
  rw [bind_of h, if_neg he]
theorem pure_ : Pure := by
  intro a l ga ⟨_, hl, gl⟩
  unfold marquetrylaw15_StreamBack.f
  by_cases h1 : (l.length : Int) > 10000
  · rw [if_pos h1, bind_of works_some]
  · rw [if_neg h1]
    obtain ⟨e, he⟩ := check_some a (l.length : Int)
    by_cases h0 : e = 0
    · subst h0
      obtain ⟨b0, b1, b2, b3⟩ := check_zero (by omega) he
      simp only [Int.toNat_natCast] at b3
      have hr := read_ok (a := a) (l := laid a.toNat l) (by rw [laid_len]; exact he)
      have hw := write_ok (a := a) (l := back a.toNat l) (by rw [back_len]; exact he)
      rw [back_laid _ _ b3] at hr
      rw [laid_back _ _ b3] at hw
      rw [bind_of (write_ok he), bind_of (read_ok he), bind_of (num_some _), bind_of (num_some _), if_pos rfl, bind_of (num_some _), if_pos rfl, bind_of hr, bind_of hw, bind_of (num_some _), bind_of (num_some _), if_pos (by simp [wrap64]), if_pos rfl, if_pos rfl, bind_of works_some]
    · rw [bind_of (write_no he h0), bind_of (read_no he h0), bind_of (num_some _), bind_of (num_some _), if_pos rfl, bind_of (num_some _), if_neg h0, if_pos (by simp [wrap64]), bind_of works_some]
end Go.Proofs.Ytkpmjijhgmmjoaa.streamBack
