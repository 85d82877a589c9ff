import Derived.Test.YteodjknknpdmeaaSBitsetBack
import Derived.Test.YteodjknknpdmeaaB7
namespace Go.Proofs.Yteodjknknpdmeaa.Pure
open Go.RowKit
open Go.Proofs.Yteodjknknpdmeaa.PG Go.Proofs.YteodjknknpdmeaaW.PrintWords Go.Proofs.YteodjknknpdmeaaW.PrintLast Go.Proofs.YteodjknknpdmeaaW.PrintMore
theorem back_ev (l : List Int) (hl : Bytes l) (hn : l.length ≤ 64) : Ev (fun k => (bitset_List.f l).bind fun t334 => ((bitset_Make.f k (l.length : Int) t334).bind fun bt337 => ((selvedgelaw02_live.f k).bind fun t341 => (if t341 = true then (if bt337.2 = 0 then (some ((strOfNums bt337.1).toList == (strOfNums l).toList)) else (some false)) else (some false))))) true := by
  have hlen := bitsOf_len l
  have hm := make_is (l.length : Int) (bitsOf l) (by omega) (fun y hy => by have := (bitsOf_rise l).mem y hy; omega)
  rw [if_neg (by omega), Int.toNat_natCast, back_is l hl hn] at hm
  simp only [list_is l hl (show l.length ≤ 80 by omega), Option.bind_some]
  refine Ev.bind hm (Ev.bind live_ev ?_)
  simpa using Ev.now true
theorem BitsetBack : BitsetBack_ := by
  intro l0 hm hg
  have hl := bytes_of hg
  apply Ev.rounds
  unfold selvedgelaw02_BitsetBack.f
  by_cases h : (l0.length : Int) > 64
  · refine Ev.congr (fun k => ?_) (back_ev (l0.take 64) (hl.take 64) (by simp; omega))
    rw [if_pos h, if_pos (by omega)]
  · refine Ev.congr (fun k => ?_) (back_ev l0 hl (by omega))
    rw [if_neg h]
end Go.Proofs.Yteodjknknpdmeaa.Pure
