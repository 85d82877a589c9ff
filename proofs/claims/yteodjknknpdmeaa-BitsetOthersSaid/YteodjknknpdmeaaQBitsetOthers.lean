import Derived.Test.YteodjknknpdmeaaSBitsetOthers
import Derived.Test.YteodjknknpdmeaaB0
namespace Go.Proofs.Yteodjknknpdmeaa.Pure
open Go.RowKit
open Go.Proofs.Yteodjknknpdmeaa.PG Go.Proofs.YteodjknknpdmeaaW.PrintWords Go.Proofs.YteodjknknpdmeaaW.PrintLast Go.Proofs.YteodjknknpdmeaaW.PrintMore
theorem BitsetOthers : BitsetOthers_ := by
  intro l0 x1 a2 hm hg ⟨ha, hb⟩
  have hl := (bytes_of hg).take 80
  obtain ⟨ha0, ha1⟩ := i64b ha
  obtain ⟨hb0, hb1⟩ := i64b hb
  refine ⟨20, ?_⟩
  have hlen : (l0.take 80).length < 140737488355328 := by simp; omega
  have hs := setL_bytes hl x1.f0 a2
  unfold selvedgelaw02_BitsetOthers.f
  rw [few_is]
  simp only [Option.bind_some]
  rw [set_is _ _ _ hl ha1 hlen 20 (by omega)]
  simp only [Option.bind_some]
  rw [live_is 20 (by omega)]
  simp only [Option.bind_some, if_true, get_is _ _ hs ha1, get_is _ _ hs hb1, get_is _ _ hl ha1, get_is _ _ hl hb1]
  by_cases h : x1.f0 < 0 ∨ x1.f0 / 8 ≥ ((l0.take 80).length : Int)
  · rw [setL_err _ _ _ h]
    have : bitI (l0.take 80) x1.f0 = false := by
      unfold bitI
      rcases h with h | h
      · simp; omega
      · rw [bit_out _ _ (by omega)]; simp
    simp [this]
  · have h0 : 0 ≤ x1.f0 := by omega
    have h1 : x1.f0 / 8 < ((l0.take 80).length : Int) := by omega
    rw [bitI_set hl _ _ h0 h1, bitI_set hl _ _ h0 h1, setL_ok _ _ _ h0 h1]
    by_cases he : x1.f1 = x1.f0
    · simp [he]
    · simp [he]
end Go.Proofs.Yteodjknknpdmeaa.Pure
