import Derived.Test.YteodjknknpdmeaaSBitsetFirsts
import Derived.Test.YteodjknknpdmeaaB2
namespace Go.Proofs.Yteodjknknpdmeaa.Pure
open Go.RowKit
open Go.Proofs.Yteodjknknpdmeaa.PG Go.Proofs.YteodjknknpdmeaaW.PrintWords Go.Proofs.YteodjknknpdmeaaW.PrintLast Go.Proofs.YteodjknknpdmeaaW.PrintMore
theorem BitsetFirsts : BitsetFirsts_ := by
  intro l0 a1 a2 hm hg ha hz
  have hl := (bytes_of hg).take 80
  have hn : (l0.take 80).length ≤ 80 := by simp; omega
  obtain ⟨r, hr, er⟩ := first_is _ hl hn a1 a2 (i64b ha).2
  obtain ⟨q, hq, eq⟩ := reffirst_is _ hl hn a1 a2
  obtain rfl := hr.eq hq
  apply Ev.rounds
  unfold selvedgelaw02_BitsetFirsts.f
  simp only [few_is, Option.bind_some]
  refine Ev.bind er (Ev.bind eq (Ev.bind live_ev ?_))
  simpa using Ev.now true
end Go.Proofs.Yteodjknknpdmeaa.Pure
