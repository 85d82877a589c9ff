import Derived.Test.YteodjknknpdmeaaSBitsetSets
import Derived.Test.YteodjknknpdmeaaB0
namespace Go.Proofs.Yteodjknknpdmeaa.Pure
open Go.RowKit
open Go.Proofs.Yteodjknknpdmeaa.PG Go.Proofs.YteodjknknpdmeaaW.PrintWords Go.Proofs.YteodjknknpdmeaaW.PrintLast Go.Proofs.YteodjknknpdmeaaW.PrintMore
theorem BitsetSets : BitsetSets_ := by
  intro l0 a1 a2 hm hg ha
  have hb := (bytes_of hg).take 80
  obtain ⟨ha0, ha1⟩ := i64b ha
  refine ⟨20, ?_⟩
  have hlen : (l0.take 80).length < 140737488355328 := by simp; omega
  unfold selvedgelaw02_BitsetSets.f
  simp only [few_is, Option.bind_some, List.nil_append, List.length_nil, Nat.zero_add]
  rw [if_pos hlen, set_is _ _ _ hb ha1 hlen 20 (by omega), refset_is _ _ _ hb ha1 hlen 20 (by omega), live_is 20 (by omega)]
  simp only [Option.bind_some, if_true, get_is _ _ hb ha1, refget_is _ _ hb ha1]
  simp
end Go.Proofs.Yteodjknknpdmeaa.Pure
