/- Parts of the proof: Kawb7. -/
import Derived.Test.YtcdiljebkpikbaaGreatS13
set_option linter.all false
set_option maxRecDepth 100000
set_option maxHeartbeats 64000000
namespace Go.Proofs.YtcdiljebkpikbaaGreat
section
set_option maxRecDepth 1000000
noncomputable section
namespace Kv
theorem aN7:zF Tryz.prog Sb [] aoZ=true:=by decide+kernel
theorem aOl:zF Tryz.prog Sb [apc] apd=true:=by decide+kernel
theorem aOp:zF Tryz.prog Sb [aPi,aoM,aoN,ao2,ao3,ape,apg] aph=true:=by decide+kernel
theorem aOA:zF Tryz.prog Sb [aps] apt=true:=by decide+kernel
theorem aOW:zF Tryz.prog Sb [apN,apO] apP=true:=by decide+kernel
theorem aO1:zF Tryz.prog Sb [apG,apI,apJ,apL,apM,apT] apU=true:=by decide+kernel
theorem aO4:zF Tryz.prog Sb [] apX=true:=by decide+kernel
theorem aPb:zF Tryz.prog Sb [ap1,ap3] ap4=true:=by decide+kernel
end Kv
end
end
end Go.Proofs.YtcdiljebkpikbaaGreat
