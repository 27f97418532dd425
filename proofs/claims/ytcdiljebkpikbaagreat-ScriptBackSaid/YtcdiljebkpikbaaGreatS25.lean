/- Parts of the proof: Kawb12. -/
import Derived.Test.YtcdiljebkpikbaaGreatS13
set_option linter.all false
set_option maxRecDepth 100000
set_option maxHeartbeats 64000000
namespace Go.Proofs.YtcdiljebkpikbaaGreat
section
set_option maxRecDepth 1000000
noncomputable section
namespace Kv
theorem awb1:zF Tryz.prog Sb [] aPe=true:=by decide+kernel
theorem aOu:zF Tryz.prog Sb [] apm=true:=by decide+kernel
theorem aOG:zF Tryz.prog Sb [apy] apz=true:=by decide+kernel
theorem aOQ:zF Tryz.prog Sb [] apJ=true:=by decide+kernel
theorem aOT:zF Tryz.prog Sb [] apM=true:=by decide+kernel
theorem aOZ:zF Tryz.prog Sb [apP,apQ,apR] apS=true:=by decide+kernel
end Kv
end
end
end Go.Proofs.YtcdiljebkpikbaaGreat
