import Derived.Test.YteodjknknpdmeaaSBitsetRows
import Derived.Test.YteodjknknpdmeaaB5
namespace Go.Proofs.Yteodjknknpdmeaa.Pure
open Go.RowKit
open Go.Proofs.Yteodjknknpdmeaa.PG Go.Proofs.YteodjknknpdmeaaW.PrintWords Go.Proofs.YteodjknknpdmeaaW.PrintLast Go.Proofs.YteodjknknpdmeaaW.PrintMore
theorem BitsetRows : BitsetRows_ := by
  intro l0 hm hg
  have hl := (bytes_of hg).take 80
  have hn : (l0.take 80).length ≤ 80 := by simp; omega
  have hr := runs_len (bitsOf (l0.take 80))
  have hb := bits_len_le _ hn
  apply Ev.rounds
  unfold selvedgelaw02_BitsetRows.f
  simp only [few_is, Option.bind_some, runs_is _ hl hn]
  exact rows_l0 _ hl hn _ (runs_rows _ 1000000 (by omega) ((bitsOf_rise _).wide (by omega))) (by omega) _ 0 rfl (by omega)
end Go.Proofs.Yteodjknknpdmeaa.Pure
