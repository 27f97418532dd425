/- Parts of the proof: Kawb1. -/
import Derived.Test.YtcdiljebkpikbaaGreatS13
set_option linter.all false
set_option maxRecDepth 100000
set_option maxHeartbeats 64000000
namespace Go.Proofs.YtcdiljebkpikbaaGreat
section
set_option maxRecDepth 1000000
noncomputable section
namespace Kv
theorem awb6:zF Tryz.prog Sb [] aPj=true:=by decide+kernel
theorem aNT:zF Tryz.prog Sb [aoK] aoL=true:=by decide+kernel
theorem aNU:zF Tryz.prog Sb [aPj,aPl,aoD,aoE,aoH,aoL] aoM=true:=by decide+kernel
theorem aOi:zF Tryz.prog Sb [] apa=true:=by decide+kernel
theorem aOj:zF Tryz.prog Sb [apa] apb=true:=by decide+kernel
theorem aCO:zF Tryz.prog Sb [] act=true:=by decide+kernel
theorem aCS:zF Tryz.prog Sb [apj,acw] acx=true:=by decide+kernel
end Kv
end
end
end Go.Proofs.YtcdiljebkpikbaaGreat
