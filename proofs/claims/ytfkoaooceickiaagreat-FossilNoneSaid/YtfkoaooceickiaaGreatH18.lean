/- Parts of the proof: Llk. -/
import Derived.Test.YtfkoaooceickiaaGreatH17
set_option linter.all false
set_option maxRecDepth 100000
namespace Go.Proofs.YtfkoaooceickiaaGreat
section
set_option maxRecDepth 1000000
noncomputable section
namespace Kv
def lpak0 : AV := (.agg [(.str 0 0), (.int 3 0), .nils, (.int 3 0), (.int 3 0)])
def lpae0 : Ent := ⟨10, [.nilp], 4, .d, 0, (.tup [lpak0, (.int 3 1)]), 4, .d, 1⟩
theorem lpab0 : segB Tryz.prog Sb [] lpae0 = true := by decide +kernel
theorem lpas0 : EntOK Tryz.prog lpae0 := seg_ok P_mixed P_noNum Sb_ok EL.nil lpab0
theorem lpatop : EntOK Tryz.prog lpae0 := lpas0
def lpbk0 : AV := (.agg [(.fl 0), (.int 3 0), (.int 3 0), (.int 3 0), (.int 3 0)])
def lpbe0 : Ent := ⟨11, [.nilp], 4, .d, 0, (.tup [lpbk0, (.bl false), (.int 3 1)]), 4, .d, 3⟩
theorem lpbb0 : segB Tryz.prog Sb [] lpbe0 = true := by decide +kernel
theorem lpbs0 : EntOK Tryz.prog lpbe0 := seg_ok P_mixed P_noNum Sb_ok EL.nil lpbb0
theorem lpbtop : EntOK Tryz.prog lpbe0 := lpbs0
def lpck0 : AV := (.agg [(.fl 0), (.int 3 0), (.int 3 0), (.int 3 0), (.int 3 0), (.str 0 0), .nils, (.int 3 0)])
def lpce0 : Ent := ⟨12, [.nilp], 4, .d, 0, (.tup [lpck0, (.int 3 1)]), 4, .d, 3⟩
theorem lpcb0 : segB Tryz.prog Sb [] lpce0 = true := by decide +kernel
theorem lpcs0 : EntOK Tryz.prog lpce0 := seg_ok P_mixed P_noNum Sb_ok EL.nil lpcb0
theorem lpctop : EntOK Tryz.prog lpce0 := lpcs0
def lpde0 : Ent := ⟨14, [], 4, .d, 0, (.ptr 252 0), 8, .d, 253⟩
theorem lpdb0 : segB Tryz.prog Sb [] lpde0 = true := by decide +kernel
theorem lpds0 : EntOK Tryz.prog lpde0 := seg_ok P_mixed P_noNum Sb_ok EL.nil lpdb0
theorem lpdtop : EntOK Tryz.prog lpde0 := lpds0
end Kv
end
end
end Go.Proofs.YtfkoaooceickiaaGreat
