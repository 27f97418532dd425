/- Parts of the proof: Kawb11. -/
import Derived.Test.YtcdiljebkpikbaaGreatS13
set_option linter.all false
set_option maxRecDepth 100000
set_option maxHeartbeats 64000000
namespace Go.Proofs.YtcdiljebkpikbaaGreat
section
set_option maxRecDepth 1000000
noncomputable section
namespace Kv
theorem awb2:zF Tryz.prog Sb [] aPf=true:=by decide+kernel
theorem aNP:zF Tryz.prog Sb [aoG] aoH=true:=by decide+kernel
theorem aNZ:zF Tryz.prog Sb [] aoR=true:=by decide+kernel
theorem aN2:zF Tryz.prog Sb [] aoU=true:=by decide+kernel
theorem aN8:zF Tryz.prog Sb [aoX,aoY,aoZ] ao0=true:=by decide+kernel
theorem aOs:zF Tryz.prog Sb [] apk=true:=by decide+kernel
end Kv
end
end
end Go.Proofs.YtcdiljebkpikbaaGreat
