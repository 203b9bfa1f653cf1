/- The works of a layer's examples, each call reckoned by the kernel, and joined. No condition but those that stand in each. -/
import Derived.Test.YtbgodhhdojjbmaaGreatATopW
import Derived.Test.YtbgodhhdojjbmaaGreatATopKex
set_option linter.unusedSimpArgs false
set_option linter.unusedVariables false
set_option maxRecDepth 100000
namespace Go.Ev.YtbgodhhdojjbmaaGreatC
open Go Go.Proofs
def Cap:AnsY:=⟨238,[],(.slice (some 3) [.agg [wN 2,wN 3,wN 4],.agg [wN 1,wN 2,wN 3],.agg [wN 4,wN 4,wN 7],.agg [wN 3,wN 5,wN 8]] false),false⟩
theorem Caz:YOk T 61 Cap:=zC fN (by kernel_rfl)
def Caq:AnsY:=⟨391,[.agg [wN 2,wN 3,wN 4]],(.bool false),false⟩
theorem A9o:YOk T 61 Caq:=zC fN (by kernel_rfl)
def Car:AnsY:=⟨391,[.agg [wN 1,wN 2,wN 3]],(.bool false),false⟩
theorem A9p:YOk T 61 Car:=zC fN (by kernel_rfl)
def Cas:AnsY:=⟨391,[.agg [wN 4,wN 4,wN 7]],(.bool false),false⟩
theorem A9q:YOk T 61 Cas:=zC fN (by kernel_rfl)
def Cat:AnsY:=⟨391,[.agg [wN 3,wN 5,wN 8]],(.bool false),false⟩
theorem A9r:YOk T 61 Cat:=zC fN (by kernel_rfl)
def Cau:AnsY:=⟨307,[(.agg [(.slice (some 3) [.agg [wN 2,wN 3,wN 4],.agg [wN 1,wN 2,wN 3],.agg [wN 4,wN 4,wN 7],.agg [wN 3,wN 5,wN 8]] false)])],wI [1,0,2,3] false,false⟩
theorem A0a:YOk T 61 Cau:=zC fN (by kernel_rfl)
def Cav:AnsY:=⟨239,[(.slice (some 3) [.agg [wN 2,wN 3,wN 4],.agg [wN 1,wN 2,wN 3],.agg [wN 4,wN 4,wN 7],.agg [wN 3,wN 5,wN 8]] false)],(.tuple [wI [1,0,2,3] false,wN 0]),false⟩
theorem Cba:YOk T 122 Cav:=zC (fM A9o (fM A9p (fM A9q (fM A9r (fM A0a fN))))) (by kernel_rfl)
def Caw:AnsY:=⟨241,[wI [1,0,2,3] false],wI [1,0,2,3] false,false⟩
theorem Cbb:YOk T 61 Caw:=zC fN (by kernel_rfl)
def Cax:AnsY:=⟨242,[wI [3,2,4,5] false],wI [3,2,4,5] false,false⟩
theorem Cbc:YOk T 61 Cax:=zC fN (by kernel_rfl)
def Cay:AnsY:=⟨308,[(.slice (some 3) [.agg [wN 2,wN 3,wN 4],.agg [wN 1,wN 2,wN 3],.agg [wN 4,wN 4,wN 7],.agg [wN 3,wN 5,wN 8]] false),wI [1,0,2,3] false],wN 0,false⟩
theorem Aof:YOk T 122 Cay:=zC (fM A9o (fM A9p (fM A9q (fM A9r fN)))) (by kernel_rfl)
def Bny:AnsY:=⟨240,[(.slice (some 3) [.agg [wN 2,wN 3,wN 4],.agg [wN 1,wN 2,wN 3],.agg [wN 4,wN 4,wN 7],.agg [wN 3,wN 5,wN 8]] false),wI [1,0,2,3] false,wI [3,2,4,5] false],(.tuple [wI [5,2,9,14] false,wN 0]),false⟩
theorem Bpc:YOk T 183 Bny:=zC (fM Aof fN) (by kernel_rfl)
def Bnz:AnsY:=⟨242,[wI [4,1,4,3] false],wI [4,1,4,3] false,false⟩
theorem Bpd:YOk T 61 Bnz:=zC fN (by kernel_rfl)
def Boa:AnsY:=⟨240,[(.slice (some 3) [.agg [wN 2,wN 3,wN 4],.agg [wN 1,wN 2,wN 3],.agg [wN 4,wN 4,wN 7],.agg [wN 3,wN 5,wN 8]] false),wI [1,0,2,3] false,wI [4,1,4,3] false],(.tuple [wI [] false,wN 3]),false⟩
theorem Bpe:YOk T 183 Boa:=zC (fM Aof fN) (by kernel_rfl)
def Bob:AnsY:=⟨241,[wI [0,1,2,3] false],wI [0,1,2,3] false,false⟩
theorem Bpf:YOk T 61 Bob:=zC fN (by kernel_rfl)
def Boc:AnsY:=⟨308,[(.slice (some 3) [.agg [wN 2,wN 3,wN 4],.agg [wN 1,wN 2,wN 3],.agg [wN 4,wN 4,wN 7],.agg [wN 3,wN 5,wN 8]] false),wI [0,1,2,3] false],wN 0,false⟩
theorem Bpg:YOk T 122 Boc:=zC (fM A9o (fM A9p (fM A9q (fM A9r fN)))) (by kernel_rfl)
def Bod:AnsY:=⟨243,[(.slice (some 3) [.agg [wN 2,wN 3,wN 4],.agg [wN 1,wN 2,wN 3],.agg [wN 4,wN 4,wN 7],.agg [wN 3,wN 5,wN 8]] false),wI [0,1,2,3] false,wI [3,2,4,5] false],(.tuple [wN 6,wN 0]),false⟩
theorem Bph:YOk T 183 Bod:=zC (fM Bpg fN) (by kernel_rfl)
def Boe:AnsY:=⟨244,[(.slice (some 3) [.agg [wN 2,wN 3,wN 4],.agg [wN 1,wN 2,wN 3],.agg [wN 4,wN 4,wN 7],.agg [wN 3,wN 5,wN 8]] false),wI [1,0,2,3] false],(.tuple [wI [1,2,1,0] false,wN 0]),false⟩
theorem Bpi:YOk T 183 Boe:=zC (fM Aof fN) (by kernel_rfl)
def Bof:AnsY:=⟨314,[(.slice (some 3) [.agg [wN 2,wN 3,wN 4],.agg [wN 1,wN 2,wN 3],.agg [wN 4,wN 4,wN 7],.agg [wN 3,wN 5,wN 8]] false),wN 0],(.tuple [(.ptr [(.slice (some 3) [.agg [wN 2,wN 3,wN 4],.agg [wN 1,wN 2,wN 3],.agg [wN 4,wN 4,wN 7],.agg [wN 3,wN 5,wN 8]] false),wI [2,1,4,3] false] 0),wN 0]),false⟩
theorem Yi:YOk T 122 Bof:=zC (fM A9o (fM A9p (fM A9q (fM A9r fN)))) (by kernel_rfl)
def Bog:AnsY:=⟨245,[(.slice (some 3) [.agg [wN 2,wN 3,wN 4],.agg [wN 1,wN 2,wN 3],.agg [wN 4,wN 4,wN 7],.agg [wN 3,wN 5,wN 8]] false),wN 0],(.tuple [wN 2,wN 0]),false⟩
theorem Bpj:YOk T 183 Bog:=zC (fM Yi (fM A0a fN)) (by kernel_rfl)
def Boh:AnsY:=⟨314,[(.slice (some 3) [.agg [wN 2,wN 3,wN 4],.agg [wN 1,wN 2,wN 3],.agg [wN 4,wN 4,wN 7],.agg [wN 3,wN 5,wN 8]] false),wN 1],(.tuple [(.ptr [(.slice (some 3) [.agg [wN 2,wN 3,wN 4],.agg [wN 1,wN 2,wN 3],.agg [wN 4,wN 4,wN 7],.agg [wN 3,wN 5,wN 8]] false),wI [3,2,4,5] false] 0),wN 0]),false⟩
theorem A5y:YOk T 122 Boh:=zC (fM A9o (fM A9p (fM A9q (fM A9r fN)))) (by kernel_rfl)
def Boi:AnsY:=⟨245,[(.slice (some 3) [.agg [wN 2,wN 3,wN 4],.agg [wN 1,wN 2,wN 3],.agg [wN 4,wN 4,wN 7],.agg [wN 3,wN 5,wN 8]] false),wN 1],(.tuple [wN 6,wN 0]),false⟩
theorem Bpk:YOk T 183 Boi:=zC (fM A5y (fM A0a fN)) (by kernel_rfl)
def Boj:AnsY:=⟨246,[(.slice (some 3) [.agg [wN 2,wN 3,wN 4],.agg [wN 1,wN 2,wN 3],.agg [wN 4,wN 4,wN 7],.agg [wN 3,wN 5,wN 8]] false),wN 1],(.tuple [wN 8,wN 0]),false⟩
theorem Bpl:YOk T 183 Boj:=zC (fM A5y (fM A0a fN)) (by kernel_rfl)
def Bok:AnsY:=⟨247,[(.slice (some 3) [.agg [wN 2,wN 3,wN 4],.agg [wN 1,wN 2,wN 3],.agg [wN 4,wN 4,wN 7],.agg [wN 3,wN 5,wN 8]] false),wN 0,wN 7],(.tuple [wN 0,wN 0]),false⟩
theorem Bpm:YOk T 183 Bok:=zC (fM Yi fN) (by kernel_rfl)
def Bol:AnsY:=⟨247,[(.slice (some 3) [.agg [wN 2,wN 3,wN 4],.agg [wN 1,wN 2,wN 3],.agg [wN 4,wN 4,wN 7],.agg [wN 3,wN 5,wN 8]] false),wN 0,wN 2],(.tuple [wN 0,wN 5]),false⟩
theorem Bpn:YOk T 183 Bol:=zC (fM Yi fN) (by kernel_rfl)
def Bom:AnsY:=⟨248,[(.slice (some 3) [.agg [wN 2,wN 3,wN 4],.agg [wN 1,wN 2,wN 3],.agg [wN 4,wN 4,wN 7],.agg [wN 3,wN 5,wN 8]] false),wN 0],(.tuple [wI [0,1,3] false,wN 0]),false⟩
theorem Bpp:YOk T 2061 Bom:=zC (fM Yi (fM Bpo fN)) (by kernel_rfl)
def Bon:AnsY:=⟨248,[(.slice (some 3) [.agg [wN 2,wN 3,wN 4],.agg [wN 1,wN 2,wN 3],.agg [wN 4,wN 4,wN 7],.agg [wN 3,wN 5,wN 8]] false),wN 1],(.tuple [wI [1,2] false,wN 0]),false⟩
theorem Bpr:YOk T 2061 Bon:=zC (fM A5y (fM Bpq fN)) (by kernel_rfl)
def Boo:AnsY:=⟨249,[(.slice (some 3) [.agg [wN 2,wN 3,wN 4],.agg [wN 1,wN 2,wN 3],.agg [wN 4,wN 4,wN 7],.agg [wN 3,wN 5,wN 8]] false),wN 1],(.tuple [wN 2,wN 0]),false⟩
theorem Bps:YOk T 183 Boo:=zC (fM A5y (fM A0a fN)) (by kernel_rfl)
def Bop:AnsY:=⟨241,[wI [0,2,3] false],wI [0,2,3] false,false⟩
theorem Bpt:YOk T 61 Bop:=zC fN (by kernel_rfl)
def Boq:AnsY:=⟨250,[(.slice (some 3) [.agg [wN 2,wN 3,wN 4],.agg [wN 1,wN 2,wN 3],.agg [wN 4,wN 4,wN 7],.agg [wN 3,wN 5,wN 8]] false),wN 0,wI [0,2,3] false],wN 12,false⟩
theorem Bpu:YOk T 183 Boq:=zC (fM Yi (fM A0a fN)) (by kernel_rfl)
def Bor:AnsY:=⟨251,[(.slice (some 3) [.agg [wN 2,wN 3,wN 4],.agg [wN 1,wN 2,wN 3],.agg [wN 4,wN 4,wN 7],.agg [wN 3,wN 5,wN 8]] false),wN 0,wN 1],(.tuple [wN 2,wN 0]),false⟩
theorem Bpv:YOk T 183 Bor:=zC (fM Yi (fM A0a fN)) (by kernel_rfl)
def Bos:AnsY:=⟨252,[wI [1,0,2,3] false,wI [1,0,2,3] false],(.bool true),false⟩
theorem Bpw:YOk T 61 Bos:=zC fN (by kernel_rfl)
def Bot:AnsY:=⟨242,[wI [5,2,9,14] false],wI [5,2,9,14] false,false⟩
theorem Bpx:YOk T 61 Bot:=zC fN (by kernel_rfl)
def Bou:AnsY:=⟨253,[wI [5,2,9,14] false,wI [5,2,9,14] false],(.bool true),false⟩
theorem Bpy:YOk T 61 Bou:=zC fN (by kernel_rfl)
def Bov:AnsY:=⟨241,[wI [1,2,1,0] false],wI [1,2,1,0] false,false⟩
theorem Bpz:YOk T 61 Bov:=zC fN (by kernel_rfl)
def Bow:AnsY:=⟨252,[wI [1,2,1,0] false,wI [1,2,1,0] false],(.bool true),false⟩
theorem Bqa:YOk T 61 Bow:=zC fN (by kernel_rfl)
def Box:AnsY:=⟨241,[wI [0,1,3] false],wI [0,1,3] false,false⟩
theorem Bqb:YOk T 61 Box:=zC fN (by kernel_rfl)
def Boy:AnsY:=⟨252,[wI [0,1,3] false,wI [0,1,3] false],(.bool true),false⟩
theorem Bqc:YOk T 61 Boy:=zC fN (by kernel_rfl)
def Boz:AnsY:=⟨241,[wI [1,2] false],wI [1,2] false,false⟩
theorem Bqd:YOk T 61 Boz:=zC fN (by kernel_rfl)
def Bpa:AnsY:=⟨252,[wI [1,2] false,wI [1,2] false],(.bool true),false⟩
theorem Bqe:YOk T 61 Bpa:=zC fN (by kernel_rfl)
def Bpb:AnsY:=⟨191,[],(.bool true),false⟩
theorem Bqf:YOk T 2122 Bpb:=zC (fM Caz (fM Cba (fM Cbb (fM Cbc (fM Bpc (fM Bpd (fM Bpe (fM Bpf (fM Bph (fM Bpi (fM Bpj (fM Bpk (fM Bpl (fM Bpm (fM Bpn (fM Bpp (fM Bpr (fM Bps (fM Bpt (fM Bpu (fM Bpv (fM Bpw (fM Bpx (fM Bpy (fM Bpz (fM Bqa (fM Bqb (fM Bqc (fM Bqd (fM Bqe fN)))))))))))))))))))))))))))))) (by kernel_rfl)
theorem Ava:YOk T 2122 ⟨191,[],.bool true,false⟩:=Bqf
end Go.Ev.YtbgodhhdojjbmaaGreatC
