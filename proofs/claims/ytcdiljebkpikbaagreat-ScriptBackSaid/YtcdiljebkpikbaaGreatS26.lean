/- Parts of the proof: Kawb13. -/
import Derived.Test.YtcdiljebkpikbaaGreatS13
set_option linter.all false
set_option maxRecDepth 100000
set_option maxHeartbeats 64000000
namespace Go.Proofs.YtcdiljebkpikbaaGreat
section
set_option maxRecDepth 1000000
noncomputable section
namespace Kv
theorem aNR:zF Tryz.prog Sb [] aoJ=true:=by decide+kernel
theorem aOe:zF Tryz.prog Sb [ao5] ao6=true:=by decide+kernel
theorem aOg:zF Tryz.prog Sb [] ao8=true:=by decide+kernel
theorem aOm:zF Tryz.prog Sb [ao4,ao6,ao7,ao8,apd] ape=true:=by decide+kernel
theorem aOy:zF Tryz.prog Sb [] apr=true:=by decide+kernel
theorem aO3:zF Tryz.prog Sb [] apW=true:=by decide+kernel
theorem aPa:zF Tryz.prog Sb [ap2] ap3=true:=by decide+kernel
theorem aCQ:zF Tryz.prog Sb [apq,apE,apF,apU,apV,acs,acu] acv=true:=by decide+kernel
end Kv
end
end
end Go.Proofs.YtcdiljebkpikbaaGreat
