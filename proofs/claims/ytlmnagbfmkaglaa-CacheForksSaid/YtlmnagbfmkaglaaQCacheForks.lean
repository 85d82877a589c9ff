import Derived.Test.YtlmnagbfmkaglaaSCacheForks
namespace Go.Proofs.Ytlmnagbfmkaglaa.Pure
open Go.RowKit
open Go.Proofs.Ytlmnagbfmkaglaa.PO Go.Proofs.Ytlmnagbfmkaglaa.PI Go.Proofs.Ytlmnagbfmkaglaa.CC Go.Proofs.YtlmnagbfmkaglaaW.PrintWords Go.Proofs.YtlmnagbfmkaglaaW.PrintLast Go.Proofs.YtlmnagbfmkaglaaW.PrintMore
theorem CacheForks : CacheForks_ := by
  intro l0 l1 _ _ _ _
  rfl
end Go.Proofs.Ytlmnagbfmkaglaa.Pure
