import Derived.Test.YteodjknknpdmeaaSBitsetFills
import Derived.Test.YteodjknknpdmeaaB6
namespace Go.Proofs.Yteodjknknpdmeaa.Pure
open Go.RowKit
open Go.Proofs.Yteodjknknpdmeaa.PG Go.Proofs.YteodjknknpdmeaaW.PrintWords Go.Proofs.YteodjknknpdmeaaW.PrintLast Go.Proofs.YteodjknknpdmeaaW.PrintMore
theorem BitsetFills : BitsetFills_ := by
  intro l0 a1 a2 hm hg ha hz
  have hl := (bytes_of hg).take 80
  have hn : (l0.take 80).length ≤ 80 := by simp; omega
  have ha := u8b ha
  have hz := u8b hz
  obtain ⟨a, rfl⟩ := Int.eq_ofNat_of_zero_le ha.1
  obtain ⟨z, rfl⟩ := Int.eq_ofNat_of_zero_le hz.1
  apply Ev.rounds
  unfold selvedgelaw02_BitsetFills.f
  simp only [few_is, Option.bind_some]
  rw [wrapI (by omega), wrapI (by omega)]
  have hf := fr_len (l0.take 80) a (z - a)
  have := fills_l0 (l0.take 80) hl hn a z (by omega) (by omega) true (fills_l1 a z (by omega) (by omega) _ (by omega) _ (l0.take 80) (-1) 0 hl hn rfl (by omega) (fun j h1 h2 h3 => by omega) (by omega)) _ a rfl (by omega) (by omega)
  rw [Nat.sub_self] at this
  exact this
end Go.Proofs.Yteodjknknpdmeaa.Pure
