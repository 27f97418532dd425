/- Parts of the proof: Kawb3. -/
import Derived.Test.YtcdiljebkpikbaaGreatS13
set_option linter.all false
set_option maxRecDepth 100000
set_option maxHeartbeats 64000000
namespace Go.Proofs.YtcdiljebkpikbaaGreat
section
set_option maxRecDepth 1000000
noncomputable section
namespace Kv
theorem awb3:zF Tryz.prog Sb [] aPg=true:=by decide+kernel
theorem aNQ:zF Tryz.prog Sb [] aoI=true:=by decide+kernel
theorem aN1:zF Tryz.prog Sb [aoS] aoT=true:=by decide+kernel
theorem aOa:zF Tryz.prog Sb [aoO,aoQ,aoR,aoT,aoU,ao1] ao2=true:=by decide+kernel
theorem aOw:zF Tryz.prog Sb [apk,apl,apm,apn] apo=true:=by decide+kernel
theorem aOL:zF Tryz.prog Sb [apr,apt,apv,apw,apz,apD] apE=true:=by decide+kernel
theorem aO5:zF Tryz.prog Sb [apX] apY=true:=by decide+kernel
theorem aO8:zF Tryz.prog Sb [] ap1=true:=by decide+kernel
end Kv
end
end
end Go.Proofs.YtcdiljebkpikbaaGreat
