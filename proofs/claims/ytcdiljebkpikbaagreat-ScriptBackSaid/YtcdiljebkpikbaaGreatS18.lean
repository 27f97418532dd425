/- Parts of the proof: Kawb5. -/
import Derived.Test.YtcdiljebkpikbaaGreatS13
set_option linter.all false
set_option maxRecDepth 100000
set_option maxHeartbeats 64000000
namespace Go.Proofs.YtcdiljebkpikbaaGreat
section
set_option maxRecDepth 1000000
noncomputable section
namespace Kv
theorem awb5:zF Tryz.prog Sb [] aPi=true:=by decide+kernel
theorem aN0:zF Tryz.prog Sb [] aoS=true:=by decide+kernel
theorem aN9:zF Tryz.prog Sb [ao0] ao1=true:=by decide+kernel
theorem aOd:zF Tryz.prog Sb [] ao5=true:=by decide+kernel
theorem aOr:zF Tryz.prog Sb [api] apj=true:=by decide+kernel
theorem aOP:zF Tryz.prog Sb [apH] apI=true:=by decide+kernel
end Kv
end
end
end Go.Proofs.YtcdiljebkpikbaaGreat
