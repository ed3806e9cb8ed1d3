/-
  Part ZQ of what Lawgn stands on: printed by program, names and spaces cut.
-/
import Derived.Test.YtglkncnkbofgfaaGreatZP
namespace Go.Proofs.YtglkncnkbofgfaaGreat.gawake
noncomputable section
open Go
set_option maxRecDepth 100000
def p6:Piece:=⟨40,[(u 0),(.slice none 0 0)],256,[],[],(.tuple ⟨[(.pointer (some ⟨260,0,none⟩)),(.bool true)]⟩),7082,[(259,k51),(260,k34),(261,k0),(263,k67),(265,k68),(266,k69),(267,k70),(268,k29),(269,k2),(270,k3),(271,k4),(272,k5),(1923,k6),(1925,k7),(1930,k9),(1931,k10),(1932,k11),(1933,k12),(3584,k13),(3586,k14),(3591,k16),(3592,k17),(3593,k18),(3594,k19),(5245,k20),(5247,k21),(5252,k23),(5253,k24),(5254,k25),(5255,k26),(6906,k27),(6908,k28),(6912,k71),(6913,k35),(6914,k36),(6915,k33),(6925,k37),(6935,k38),(6936,k39),(6993,k40),(6995,k41),(6997,k42),(6999,k43),(7066,k44),(7074,k45),(7076,k46),(7078,k47),(7079,k48),(7080,k49),(7081,k50)],256,7082⟩
set_option maxHeartbeats 0 in
theorem fG:Bd Tryz.prog ty 40 p6:=⟨rfl,_,15,Pp 64,by kernel_rfl⟩
end
noncomputable section
open Go
set_option maxRecDepth 100000
def m2:MT:=(.nd [] (.nd [] (.nd [] (.nd [] (.nd [] (.nd [] .mt .mt) .mt) (.nd [] (.nd [] .mt .mt) .mt)) (.nd [] (.nd [] (.nd [] .mt .mt) .mt) (.nd [] .mt .mt))) (.nd [] (.nd [] (.nd [] (.nd [] .mt .mt) .mt) (.nd [] (.nd [p7,p8,p9] .mt .mt) .mt)) (.nd [] (.nd [] (.nd [] .mt .mt) .mt) (.nd [] .mt .mt)))) (.nd [] (.nd [] (.nd [] (.nd [] (.nd [] .mt .mt) .mt) (.nd [] (.nd [p6] .mt .mt) .mt)) (.nd [] (.nd [] (.nd [] .mt .mt) .mt) (.nd [] .mt .mt))) (.nd [] (.nd [] (.nd [] (.nd [] .mt .mt) .mt) (.nd [] .mt .mt)) (.nd [] (.nd [] (.nd [] .mt .mt) .mt) (.nd [] .mt .mt)))))
theorem eu:MT.All (Bd Tryz.prog ty) m2 id:=⟨Ab,⟨Ab,⟨Ab,⟨Ab,⟨Ab,⟨Ab,trivial,trivial⟩,trivial⟩,⟨Ab,⟨Ab,trivial,trivial⟩,trivial⟩⟩,⟨Ab,⟨Ab,⟨Ab,trivial,trivial⟩,trivial⟩,⟨Ab,trivial,trivial⟩⟩⟩,⟨Ab,⟨Ab,⟨Ab,⟨Ab,trivial,trivial⟩,trivial⟩,⟨Ab,⟨(Bs Tw (Bs Tx (Bs Ty Ab))),trivial,trivial⟩,trivial⟩⟩,⟨Ab,⟨Ab,⟨Ab,trivial,trivial⟩,trivial⟩,⟨Ab,trivial,trivial⟩⟩⟩⟩,⟨Ab,⟨Ab,⟨Ab,⟨Ab,⟨Ab,trivial,trivial⟩,trivial⟩,⟨Ab,⟨(Bs fG Ab),trivial,trivial⟩,trivial⟩⟩,⟨Ab,⟨Ab,⟨Ab,trivial,trivial⟩,trivial⟩,⟨Ab,trivial,trivial⟩⟩⟩,⟨Ab,⟨Ab,⟨Ab,⟨Ab,trivial,trivial⟩,trivial⟩,⟨Ab,trivial,trivial⟩⟩,⟨Ab,⟨Ab,⟨Ab,trivial,trivial⟩,trivial⟩,⟨Ab,trivial,trivial⟩⟩⟩⟩⟩
theorem calls_m2(n:Nat):BM Tryz.prog ty (JH Hs m2 n):=E7 L8 (by kernel_rfl) GV eu n
end
end Go.Proofs.YtglkncnkbofgfaaGreat.gawake
