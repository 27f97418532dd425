/- Parts of the proof: Kawb10. -/
import Derived.Test.YtcdiljebkpikbaaGreatS13
set_option linter.all false
set_option maxRecDepth 100000
set_option maxHeartbeats 64000000
namespace Go.Proofs.YtcdiljebkpikbaaGreat
section
set_option maxRecDepth 1000000
noncomputable section
namespace Kv
theorem awb7:zF Tryz.prog Sb [] aPk=true:=by decide+kernel
theorem aNV:zF Tryz.prog Sb [] aoN=true:=by decide+kernel
theorem aNW:zF Tryz.prog Sb [] aoO=true:=by decide+kernel
theorem aOO:zF Tryz.prog Sb [] apH=true:=by decide+kernel
theorem aOV:zF Tryz.prog Sb [] apO=true:=by decide+kernel
theorem aO6:zF Tryz.prog Sb [] apZ=true:=by decide+kernel
end Kv
end
end
end Go.Proofs.YtcdiljebkpikbaaGreat
