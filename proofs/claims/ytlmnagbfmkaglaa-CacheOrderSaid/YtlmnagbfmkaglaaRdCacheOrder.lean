import Derived.Test.YtlmnagbfmkaglaaOpen
import Derived.Test.YtlmnagbfmkaglaaPJx0
import Derived.KernelRfl
namespace Go.Proofs.Ytlmnagbfmkaglaa.CacheOrderR
open Go.RowKit
open Go.Proofs.Ytlmnagbfmkaglaa.PJ Go.Proofs.YtlmnagbfmkaglaaW.PrintWords Go.Proofs.YtlmnagbfmkaglaaW.PrintLast Go.Proofs.YtlmnagbfmkaglaaW.PrintMore
end Go.Proofs.Ytlmnagbfmkaglaa.CacheOrderR
