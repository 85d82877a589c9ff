import Derived.Test.YteodjknknpdmeaaSBitsetLists
import Derived.Test.YteodjknknpdmeaaB4
namespace Go.Proofs.Yteodjknknpdmeaa.Pure
open Go.RowKit
open Go.Proofs.Yteodjknknpdmeaa.PG Go.Proofs.YteodjknknpdmeaaW.PrintWords Go.Proofs.YteodjknknpdmeaaW.PrintLast Go.Proofs.YteodjknknpdmeaaW.PrintMore
theorem BitsetLists : BitsetLists_ := by
  intro l0 hm hg
  have hl := (bytes_of hg).take 80
  have hn : (l0.take 80).length ≤ 80 := by simp; omega
  have hr := runs_len (bitsOf (l0.take 80))
  have hb := bits_len_le _ hn
  apply Ev.rounds
  unfold selvedgelaw02_BitsetLists.f
  simp only [few_is, Option.bind_some, runs_is _ hl hn]
  exact Ev.bind (refRuns_is _ hl hn) (lists_l0 _ hl hn _ (by omega) _ 0 rfl (by omega))
end Go.Proofs.Yteodjknknpdmeaa.Pure
