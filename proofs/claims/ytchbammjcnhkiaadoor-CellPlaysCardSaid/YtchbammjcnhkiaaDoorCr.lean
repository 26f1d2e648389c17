/- What a cell is made of stays where it lies while a law's loop runs. -/
import Derived.Test.YtchbammjcnhkiaaDoorCq
namespace Go.Proofs.YtchbammjcnhkiaaDoor.Ce
open Go.RowKit Go.Maps Go.Proofs.YtchbammjcnhkiaaDoor Go.Proofs.YtchbammjcnhkiaaDoorW.PrintWords Go.Proofs.YtchbammjcnhkiaaDoorW.PrintLast Go.Proofs.YtchbammjcnhkiaaDoorW.PrintMore PCellPlays
def NBk (w wr : World) (b : Nat) (ag : Bool) (tr ba fa ca : Int) : Prop := w.heap.size < b ∧ wr.heap[w.heap.size]? = some (.cells #[.bool ag, .int .i64 tr, .int .i64 ba, .int .i64 fa, .int .i64 ca] 25 (0, 0))
theorem NBk.below {w wr w3 : World} {b : Nat} {ag : Bool} {tr ba fa ca : Int} (h : NBk w wr b ag tr ba fa ca) (hb : Below wr.heap.size wr w3) : NBk w w3 b ag tr ba fa ca := ⟨h.1, blk_below h.2 hb⟩
theorem NBk.chg {w wr w3 : World} {b : Nat} {ag : Bool} {tr ba fa ca : Int} (h : NBk w wr b ag tr ba fa ca) (hc : Chg (· = b) wr w3) : NBk w w3 b ag tr ba fa ca := ⟨h.1, blk_chg h.2 hc (Nat.ne_of_lt h.1)⟩
end Go.Proofs.YtchbammjcnhkiaaDoor.Ce
