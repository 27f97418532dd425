/- Parts of the proof: Kawb2. -/
import Derived.Test.YtcdiljebkpikbaaGreatS13
set_option linter.all false
set_option maxRecDepth 100000
set_option maxHeartbeats 64000000
namespace Go.Proofs.YtcdiljebkpikbaaGreat
section
set_option maxRecDepth 1000000
noncomputable section
namespace Kv
theorem aNX:zF Tryz.prog Sb [] aoP=true:=by decide+kernel
theorem aOc:zF Tryz.prog Sb [] ao4=true:=by decide+kernel
theorem aOt:zF Tryz.prog Sb [] apl=true:=by decide+kernel
theorem aOK:zF Tryz.prog Sb [apC] apD=true:=by decide+kernel
theorem aO2:zF Tryz.prog Sb [] apV=true:=by decide+kernel
theorem aO9:zF Tryz.prog Sb [] ap2=true:=by decide+kernel
end Kv
end
end
end Go.Proofs.YtcdiljebkpikbaaGreat
