/- Values read that were laid byte by byte are what the document says (StreamReads), at every width and every byte string that the guard lets in. -/
import Derived.Test.YtkpmjijhgmmjoaaSayStreamReads
import Derived.Test.YtkpmjijhgmmjoaaStreamRef
namespace Go.Proofs.Ytkpmjijhgmmjoaa.streamReads
open Go.RowKit Go.Proofs.YtkpmjijhgmmjoaaW.PrintWords Go.Proofs.YtkpmjijhgmmjoaaW.PrintLast Go.Proofs.YtkpmjijhgmmjoaaW.PrintMore Go.Proofs.Ytkpmjijhgmmjoaa.H Go.Proofs.YtkpmjijhgmmjoaaO Go.Proofs.Ytkpmjijhgmmjoaa.streamBack
theorem pure_ : Pure := by
  intro a l ga ⟨_, hl, gl⟩
  by_cases h1 : (l.length : Int) > 10000
  · refine ⟨0, ?_⟩
    unfold marquetrylaw15_StreamReads.f
    rw [if_pos h1]
  · obtain ⟨k, r, hw, hr⟩ := streamRef.read_ref a l (by omega)
    refine ⟨k, ?_⟩
    unfold marquetrylaw15_StreamReads.f
    rw [if_neg h1, bind_of hw, bind_of hr, if_pos rfl]
end Go.Proofs.Ytkpmjijhgmmjoaa.streamReads
