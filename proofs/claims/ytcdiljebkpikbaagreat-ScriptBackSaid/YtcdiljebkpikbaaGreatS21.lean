/- Parts of the proof: Kawb8. -/
import Derived.Test.YtcdiljebkpikbaaGreatS13
set_option linter.all false
set_option maxRecDepth 100000
set_option maxHeartbeats 64000000
namespace Go.Proofs.YtcdiljebkpikbaaGreat
section
set_option maxRecDepth 1000000
noncomputable section
namespace Kv
theorem awb0:zF Tryz.prog Sb [] aPd=true:=by decide+kernel
theorem aOq:zF Tryz.prog Sb [aPh,aph] api=true:=by decide+kernel
theorem aOD:zF Tryz.prog Sb [] apw=true:=by decide+kernel
theorem aOU:zF Tryz.prog Sb [] apN=true:=by decide+kernel
theorem aOY:zF Tryz.prog Sb [] apR=true:=by decide+kernel
theorem aPc:zF Tryz.prog Sb [ap4] ap5=true:=by decide+kernel
end Kv
end
end
end Go.Proofs.YtcdiljebkpikbaaGreat
