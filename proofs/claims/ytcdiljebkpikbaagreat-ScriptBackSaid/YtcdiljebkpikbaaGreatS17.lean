/- Parts of the proof: Kawb4. -/
import Derived.Test.YtcdiljebkpikbaaGreatS13
set_option linter.all false
set_option maxRecDepth 100000
set_option maxHeartbeats 64000000
namespace Go.Proofs.YtcdiljebkpikbaaGreat
section
set_option maxRecDepth 1000000
noncomputable section
namespace Kv
theorem aNM:zF Tryz.prog Sb [] aoE=true:=by decide+kernel
theorem aN3:zF Tryz.prog Sb [] aoV=true:=by decide+kernel
theorem aOn:zF Tryz.prog Sb [] apf=true:=by decide+kernel
theorem aOv:zF Tryz.prog Sb [] apn=true:=by decide+kernel
theorem aOF:zF Tryz.prog Sb [apx] apy=true:=by decide+kernel
theorem aOS:zF Tryz.prog Sb [apK] apL=true:=by decide+kernel
end Kv
end
end
end Go.Proofs.YtcdiljebkpikbaaGreat
