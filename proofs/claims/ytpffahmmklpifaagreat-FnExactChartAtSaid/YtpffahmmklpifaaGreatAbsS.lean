/- Arrays' places; rows' steps as a walk takes them. -/
import Derived.Test.YtpffahmmklpifaaGreatAbsR
namespace Go.Proofs.YtpffahmmklpifaaGreat.Abs
open Go.RowKit
set_option linter.unusedVariables false
set_option linter.unusedSimpArgs false

section
variable {P : Program} {E : Env} {tm : List AV} {M : Mem} {o : Oper}
end
end Go.Proofs.YtpffahmmklpifaaGreat.Abs
